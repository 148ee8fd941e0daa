import Derived.Test.YtbigcpjlahkggaaKReplicaCommits7
set_option linter.unusedVariables false
set_option linter.unusedSimpArgs false
namespace Go.Proofs.Ytbigcpjlahkggaa.Q
open Go.RowKit Go.Proofs.YtbigcpjlahkggaaW.PrintWords Go.Proofs.YtbigcpjlahkggaaW.PrintLast Go.Proofs.YtbigcpjlahkggaaW.PrintMore
attribute [local go_sem] max2_int min2_int max_two min_two max_three min_three max_four min_four
attribute [local go_sem ↓] isSome_setCell
attribute [local go_sem] string_gtr
set_option linter.unusedVariables false
set_option linter.unusedSimpArgs false
def replica_Accept.j0 : Nat → Bool → Int → Int → List (S87) → Int → Int → Int → List (S87) → Int → Option (Int × Int × (List (S87)) × Int × Int)
 | 0, _, _, _, _, _, _, _, _, _ => none
 | k + 1, x10, x185000, x185001, x185002, x186000, x186001, x186002, x186003, x186004 => if x10 = true then (some (0, 0, ([] : List (S87)), 0, 8)) else (if x186000 < x185000 then (some (0, 0, ([] : List (S87)), 0, 22)) else (if (x185002.length : Int) < x186001 then (some (0, 0, ([] : List (S87)), 0, 9)) else ((replica_Node_end.f x185000 x185001 x185002 x186001).bind fun t189 => (if t189 = x186002 then ((replica_agreed.f k x185000 x185001 x185002 x186000 x186001 x186002 x186003 x186004).bind fun t190 => ((replica_copied.f k x185002).bind fun t191 => (if t190 < (wrap64 (x186001 + (x186003.length : Int))) then (if t190 < x185001 then (some (0, 0, ([] : List (S87)), 0, 21)) else (if 0 ≤ t190 then (if t190 ≤ (t191.length : Int) then ((some (t191.take (t190 : Int).toNat : List (S87))).bind fun y195 => (if 0 ≤ (wrap64 (t190 - x186001)) then (if (wrap64 (t190 - x186001)) ≤ (x186003.length : Int) then ((replica_copied.f k (x186003.drop ((wrap64 (t190 - x186001)) : Int).toNat)).bind fun t203 => (if y195.length + t203.length < 4398046511104 then (some (x186000, mx x185001 (mn x186004 (wrap64 (x186001 + (x186003.length : Int)))), (y195 ++ t203), wrap64 (x186001 + (x186003.length : Int)), 0)) else (none))) else (none)) else (none))) else (none)) else (none))) else (some (x186000, mx x185001 (mn x186004 (wrap64 (x186001 + (x186003.length : Int)))), t191, wrap64 (x186001 + (x186003.length : Int)), 0))))) else (some (0, 0, ([] : List (S87)), 0, 9))))))
def replica_Accept.f (k : Nat) (a0_0 : Int) (a0_1 : Int) (l0_2 : List (S87)) (a1_0 : Int) (a1_1 : Int) (a1_2 : Int) (l1_3 : List (S87)) (a1_4 : Int) : Option (Int × Int × (List (S87)) × Int × Int) := (replica_Node_valid.f k a0_0 a0_1 l0_2).bind fun t187 => (if t187 = true then ((replica_Message_valid.f k a1_0 a1_1 a1_2 l1_3 a1_4).bind fun t188 => (replica_Accept.j0 k (!t188) a0_0 a0_1 l0_2 a1_0 a1_1 a1_2 l1_3 a1_4)) else (replica_Accept.j0 k true a0_0 a0_1 l0_2 a1_0 a1_1 a1_2 l1_3 a1_4))
def replica_Accept.T5 : Bool × List (List Nat × List Nat) := (true, [([], []), ([0], [0]), ([1], [1]), ([], []), ([3], [3]), ([2, 4], [2, 4]), ([5], [5]), ([6], [6]), ([6], [6]), ([8, 6], [6, 8]), ([7, 9, 6, 6], [6, 7, 9]), ([6], [6]), ([11, 6], [6, 11]), ([10, 12, 6], [6, 10, 12]), ([6, 13], [6, 13]), ([14, 10], [14])])
def replica_Accept.B5 : List Nat := [0, 1, 3, 0, 8, 31, 63, 127, 127, 383, 1023, 127, 2175, 8191, 16383, 32767]
theorem replica_Accept.tab5 : rtab .any (opsOf Try.f17 5) = replica_Accept.T5 := by kernel_rfl
theorem replica_Accept.bits5 : waitsOk replica_Accept.T5.2 replica_Accept.B5 = true := by kernel_rfl
def replica_Accept.T9 : Bool × List (List Nat × List Nat) := (true, [([], []), ([0], [0]), ([], []), ([2], [2]), ([], []), ([4], [4]), ([5], [5]), ([1, 3, 6], [1, 3, 6]), ([], []), ([8, 7, 6, 0, 1, 2, 3, 4, 5, 6, 7, 8], [7, 8])])
def replica_Accept.B9 : List Nat := [0, 1, 0, 4, 0, 16, 48, 127, 0, 511]
theorem replica_Accept.tab9 : rtab .any (opsOf Try.f17 9) = replica_Accept.T9 := by kernel_rfl
theorem replica_Accept.bits9 : waitsOk replica_Accept.T9.2 replica_Accept.B9 = true := by kernel_rfl
def replica_Accept.T13 : Bool × List (List Nat × List Nat) := (true, [([], []), ([0], [0]), ([], []), ([1, 2], [1, 2]), ([], []), ([4], [4]), ([], []), ([], []), ([7], [7]), ([6, 8], [6, 8]), ([5, 9], [5, 9]), ([10], [10]), ([3, 11, 11], [3, 11]), ([0, 1, 2, 3, 4, 5, 6, 7, 8, 9, 10, 11, 12], []), ([13, 12, 12, 0, 1, 2, 3, 4, 5, 6, 7, 8, 9, 10, 11, 12], [12, 13])])
def replica_Accept.B13 : List Nat := [0, 1, 0, 7, 0, 16, 0, 0, 128, 448, 1008, 2032, 4095, 8191, 16383]
theorem replica_Accept.tab13 : rtab .any (opsOf Try.f17 13) = replica_Accept.T13 := by kernel_rfl
theorem replica_Accept.bits13 : waitsOk replica_Accept.T13.2 replica_Accept.B13 = true := by kernel_rfl
set_option maxHeartbeats 8000000 in
set_option maxRecDepth 100000 in
theorem replica_Accept.calls (k : Nat) (a0_0 : Int) (a0_1 : Int) (P0_2_ : Nat → Prop) (A0_2 : Option Addr) (c0_2 : Nat) (l0_2 : List (S87)) (a1_0 : Int) (a1_1 : Int) (a1_2 : Int) (P1_3_ : Nat → Prop) (A1_3 : Option Addr) (c1_3 : Nat) (l1_3 : List (S87)) (a1_4 : Int) (r1 : Int) (r2 : Int) (r3 : List (S87)) (r4 : Int) (r5 : Int) (w : World) (hs0_2 : Kd.V k87 87 w w.heap.size (fun k_ => P0_2_ k_) (.slice A0_2 l0_2.length c0_2) l0_2) (hs1_3 : Kd.V k87 87 w w.heap.size (fun k_ => P1_3_ k_) (.slice A1_3 l1_3.length c1_3) l1_3) (h : replica_Accept.f k a0_0 a0_1 l0_2 a1_0 a1_1 a1_2 l1_3 a1_4 = some (r1, r2, r3, r4, r5)) :
  Calls Try.prog 17 #[.agg #[.int .i64 a0_0, .int .i64 a0_1, .slice A0_2 l0_2.length c0_2], .agg #[.int .i64 a1_0, .int .i64 a1_1, .int .i64 a1_2, .slice A1_3 l1_3.length c1_3, .int .i64 a1_4]] w fun e w' => ∃ v2_ : Value, e = .returned (.tuple #[.agg #[.int .i64 r1, .int .i64 r2, v2_], .int .i64 r4, .int .i64 r5]) ∧ Kd.N k87 87 w' w.heap.size (fun k_ => ((P0_2_ k_ ∨ P1_3_ k_) ∨ w.heap.size ≤ k_)) v2_ r3 ∧ Below w.heap.size w w' := by
 have hu35 := Try.underlying35
 have hu30 := Try.underlying30
 have HO0_2 := am_ (show Kd.V k87 87 w w.heap.size (fun k_ => ((P0_2_ k_ ∨ P1_3_ k_) ∨ w.heap.size ≤ k_)) (.slice A0_2 l0_2.length c0_2) l0_2 from vm_ hs0_2 (fun k_ hk => .inl (.inl hk)))
 have HO1_3 := am_ (show Kd.V k87 87 w w.heap.size (fun k_ => ((P0_2_ k_ ∨ P1_3_ k_) ∨ w.heap.size ≤ k_)) (.slice A1_3 l1_3.length c1_3) l1_3 from vm_ hs1_3 (fun k_ hk => .inl (.inr hk)))
 have HB := am_ (Below.refl w.heap.size w)
 have H : ((replica_Node_valid.f k a0_0 a0_1 l0_2).bind fun t187 => (if t187 = true then ((replica_Message_valid.f k a1_0 a1_1 a1_2 l1_3 a1_4).bind fun t188 => (replica_Accept.j0 k (!t188) a0_0 a0_1 l0_2 a1_0 a1_1 a1_2 l1_3 a1_4)) else (replica_Accept.j0 k true a0_0 a0_1 l0_2 a1_0 a1_1 a1_2 l1_3 a1_4))) = some (r1, r2, r3, r4, r5) := h
 clear h
 have HC3 := am_ H
 clear H
 go_enter Try.func17, Try.ntmps17
 go_upto_region 1 with (first | ((with_reducible refine gate_dst (N := 2) rfl ?_); refine box_event ?hg (N := 2) ?hd (cs := #[.int .i64 a0_0, .int .i64 a0_1, .slice A0_2 l0_2.length c0_2]) (t := 35) ?hr ?_; (case hd => rfl); (case hg => rfl); (case hr => first | (go_simp; done) | (go_simp; rfl)); intro gb184 hg w4 hbox hb; have n0_ := am_ (vb_ (Kd.V_elderB (pV_ HO0_2.out) gb184 (le_ hg.symm)) hb); have n1_ := am_ (vb_ (Kd.V_elderB (pV_ HO1_3.out) gb184 (le_ hg.symm)) hb); have n2_ := am_ (sp_ (pb0_ HB.out) hb); have n3_ := am_ (hbox); have n4_ := am_ ((by rw [hg]; exact (bz_ (pb0_ HB.out)) : w.heap.size ≤ gb184)); have n5_ := am_ ((by rw [hg]; exact (bz_ (pb0_ HB.out)) : w.heap.size ≤ gb184)); clear HO0_2; clear HO1_3; clear HB; have HO0_2 := n0_; have HO1_3 := n1_; have HB := n2_; have BK184 := n3_; have GW184 := n4_; have GE184 := n5_; clear n0_ n1_ n2_ n3_ n4_ n5_; clear hb hbox hg) | ((with_reducible refine gate_dst (N := 3) rfl ?_); refine box_event ?hg (N := 3) ?hd (cs := #[.int .i64 a1_0, .int .i64 a1_1, .int .i64 a1_2, .slice A1_3 l1_3.length c1_3, .int .i64 a1_4]) (t := 30) ?hr ?_; (case hd => rfl); (case hg => rfl); (case hr => first | (go_simp; done) | (go_simp; rfl)); intro gb185 hg w5 hbox hb; have n0_ := am_ (vb_ (Kd.V_elderB (pV_ HO0_2.out) gb185 (le_ hg.symm)) hb); have n1_ := am_ (vb_ (Kd.V_elderB (pV_ HO1_3.out) gb185 (le_ hg.symm)) hb); have n2_ := am_ (bw_ (g := gb184) (o := .cells #[.int .i64 a0_0, .int .i64 a0_1, .slice A0_2 l0_2.length c0_2] 35 (0, 0)) (pk_ BK184.out) hb); have n3_ := am_ (sp_ (pb1_ HB.out GE184.out) hb); have n4_ := am_ (hbox); have n5_ := am_ ((by rw [hg]; exact (bz_ (pb1_ HB.out GE184.out)) : w.heap.size ≤ gb185)); have n6_ := am_ ((by rw [hg]; exact (bz_ (pb1_ HB.out GE184.out)) : w.heap.size ≤ gb185)); have n7_ := am_ ((by rw [hg]; exact Nat.ne_of_lt (blk_lt (g := gb184) (o := .cells #[.int .i64 a0_0, .int .i64 a0_1, .slice A0_2 l0_2.length c0_2] 35 (0, 0)) (pk_ BK184.out)) : gb184 ≠ gb185)); have n8_ := am_ ((by rw [hg]; exact Nat.ne_of_gt (blk_lt (g := gb184) (o := .cells #[.int .i64 a0_0, .int .i64 a0_1, .slice A0_2 l0_2.length c0_2] 35 (0, 0)) (pk_ BK184.out)) : gb185 ≠ gb184)); clear HO0_2; clear HO1_3; clear BK184; clear HB; have HO0_2 := n0_; have HO1_3 := n1_; have BK184 := n2_; have HB := n3_; have BK185 := n4_; have GW185 := n5_; have GE185 := n6_; have NB184_185 := n7_; have NB185_184 := n8_; clear n0_ n1_ n2_ n3_ n4_ n5_ n6_ n7_ n8_; clear hb hbox hg) | ((with_reducible refine gate_dst (N := 4) rfl ?_); refine box_event ?hg (N := 4) ?hd (cs := #[.int .i64 0, .int .i64 0, .slice none 0 0]) (t := 35) ?hr ?_; (case hd => rfl); (case hg => rfl); (case hr => first | (go_simp; done) | (go_simp; rfl)); intro gb186 hg w6 hbox hb; have n0_ := am_ (vb_ (Kd.V_elderB (pV_ HO0_2.out) gb186 (le_ hg.symm)) hb); have n1_ := am_ (vb_ (Kd.V_elderB (pV_ HO1_3.out) gb186 (le_ hg.symm)) hb); have n2_ := am_ (bw_ (g := gb184) (o := .cells #[.int .i64 a0_0, .int .i64 a0_1, .slice A0_2 l0_2.length c0_2] 35 (0, 0)) (pk_ BK184.out) hb); have n3_ := am_ (bw_ (g := gb185) (o := .cells #[.int .i64 a1_0, .int .i64 a1_1, .int .i64 a1_2, .slice A1_3 l1_3.length c1_3, .int .i64 a1_4] 30 (0, 0)) (pk_ BK185.out) hb); have n4_ := am_ (sp_ (pb2_ HB.out GE184.out GE185.out) hb); have n5_ := am_ (hbox); have n6_ := am_ ((by rw [hg]; exact (bz_ (pb2_ HB.out GE184.out GE185.out)) : w.heap.size ≤ gb186)); have n7_ := am_ ((by rw [hg]; exact (bz_ (pb2_ HB.out GE184.out GE185.out)) : w.heap.size ≤ gb186)); have n8_ := am_ ((by rw [hg]; exact Nat.ne_of_lt (blk_lt (g := gb184) (o := .cells #[.int .i64 a0_0, .int .i64 a0_1, .slice A0_2 l0_2.length c0_2] 35 (0, 0)) (pk_ BK184.out)) : gb184 ≠ gb186)); have n9_ := am_ ((by rw [hg]; exact Nat.ne_of_gt (blk_lt (g := gb184) (o := .cells #[.int .i64 a0_0, .int .i64 a0_1, .slice A0_2 l0_2.length c0_2] 35 (0, 0)) (pk_ BK184.out)) : gb186 ≠ gb184)); have n10_ := am_ ((by rw [hg]; exact Nat.ne_of_lt (blk_lt (g := gb185) (o := .cells #[.int .i64 a1_0, .int .i64 a1_1, .int .i64 a1_2, .slice A1_3 l1_3.length c1_3, .int .i64 a1_4] 30 (0, 0)) (pk_ BK185.out)) : gb185 ≠ gb186)); have n11_ := am_ ((by rw [hg]; exact Nat.ne_of_gt (blk_lt (g := gb185) (o := .cells #[.int .i64 a1_0, .int .i64 a1_1, .int .i64 a1_2, .slice A1_3 l1_3.length c1_3, .int .i64 a1_4] 30 (0, 0)) (pk_ BK185.out)) : gb186 ≠ gb185)); clear HO0_2; clear HO1_3; clear BK184; clear BK185; clear HB; have HO0_2 := n0_; have HO1_3 := n1_; have BK184 := n2_; have BK185 := n3_; have HB := n4_; have BK186 := n5_; have GW186 := n6_; have GE186 := n7_; have NB184_186 := n8_; have NB186_184 := n9_; have NB185_186 := n10_; have NB186_185 := n11_; clear n0_ n1_ n2_ n3_ n4_ n5_ n6_ n7_ n8_ n9_ n10_ n11_; clear hb hbox hg))
 (try simp only [Act.put, lt1_, lt2_, lt3_])
 go_cut [10] (fun v10 wc => ∃ (kq : Nat) (x10_2 : Bool), v10 = .bool x10_2 ∧ Aside0 (replica_Accept.j0 kq x10_2 a0_0 a0_1 l0_2 a1_0 a1_1 a1_2 l1_3 a1_4 = some (r1, r2, r3, r4, r5)) ∧ Aside0 (kq ≤ k) ∧ Aside0 (Kd.V k87 87 wc w.heap.size (fun k_ => ((P0_2_ k_ ∨ P1_3_ k_) ∨ w.heap.size ≤ k_) ∧ k_ ≠ gb184 ∧ k_ ≠ gb185 ∧ k_ ≠ gb186) (.slice A0_2 l0_2.length c0_2) l0_2) ∧ Aside0 (Kd.V k87 87 wc w.heap.size (fun k_ => ((P0_2_ k_ ∨ P1_3_ k_) ∨ w.heap.size ≤ k_) ∧ k_ ≠ gb184 ∧ k_ ≠ gb185 ∧ k_ ≠ gb186) (.slice A1_3 l1_3.length c1_3) l1_3) ∧ Aside0 (wc.heap[gb184]? = some (.cells #[.int .i64 a0_0, .int .i64 a0_1, (.slice A0_2 l0_2.length c0_2)] 35 (0, 0))) ∧ Aside0 (wc.heap[gb185]? = some (.cells #[.int .i64 a1_0, .int .i64 a1_1, .int .i64 a1_2, (.slice A1_3 l1_3.length c1_3), .int .i64 a1_4] 30 (0, 0))) ∧ Aside0 (wc.heap[gb186]? = some (.cells #[.int .i64 0, .int .i64 0, (.slice none 0 0)] 35 (0, 0))) ∧ Aside0 (Below w.heap.size w wc))
 case first =>
  have H := HC3.out
  clear HC3
  replace H := Option.bind_eq_some_iff.mp H
  obtain ⟨t187, A70, H⟩ := H
  replace H : (if t187 = true then ((replica_Message_valid.f k a1_0 a1_1 a1_2 l1_3 a1_4).bind fun t188 => (replica_Accept.j0 k (!t188) a0_0 a0_1 l0_2 a1_0 a1_1 a1_2 l1_3 a1_4)) else (replica_Accept.j0 k true a0_0 a0_1 l0_2 a1_0 a1_1 a1_2 l1_3 a1_4)) = some (r1, r2, r3, r4, r5) := H
  have A7 := am_ A70
  clear A70
  by_cases c8 : t187 = true
  ·
   subst c8
   have H1 : ((replica_Message_valid.f k a1_0 a1_1 a1_2 l1_3 a1_4).bind fun t188 => (replica_Accept.j0 k (!t188) a0_0 a0_1 l0_2 a1_0 a1_1 a1_2 l1_3 a1_4)) = some (r1, r2, r3, r4, r5) := by rw [if_pos rfl] at H; exact H
   clear H
   have H := H1
   clear H1
   replace H := Option.bind_eq_some_iff.mp H
   obtain ⟨t188, A90, H⟩ := H
   replace H : (replica_Accept.j0 k (!t188) a0_0 a0_1 l0_2 a1_0 a1_1 a1_2 l1_3 a1_4) = some (r1, r2, r3, r4, r5) := H
   have A9 := am_ A90
   clear A90
   have H' := am_ H
   clear H
   have hnb10 := NB184_185.out
   have hnc10 := NB185_184.out
   have hnb11 := NB184_186.out
   have hnc11 := NB186_184.out
   have hcz12_0 : w6.cell? ⟨gb184, 0, none⟩ = some (.int .i64 a0_0) := (bc_ BK184.out 0).trans rfl
   have hcz12_1 : w6.cell? ⟨gb184, 1, none⟩ = some (.int .i64 a0_1) := (bc_ BK184.out 1).trans rfl
   have hcz12_2 : w6.cell? ⟨gb184, 2, none⟩ = some (.slice A0_2 l0_2.length c0_2) := (bc_ BK184.out 2).trans rfl
   have hfz12_0 := bf_ BK184.out 0
   have hfz12_1 := bf_ BK184.out 1
   have hfz12_2 := bf_ BK184.out 2
   go_wp2_with (first | ((with_reducible refine gate_callee (f := 27) rfl ?_); refine goesL_ (some 12) rfl rfl Try.func27 (by kernel_rfl) rfl #[.agg #[.int .i64 a0_0, .int .i64 a0_1, .slice A0_2 l0_2.length c0_2]] rfl au_ ?_; (with_reducible refine (replica_Node_valid.calls k a0_0 a0_1 _ _ l0_2 true _ ?side1 ?side2 A7.out).mono ?_); (case side1 => repeat (first | exact (Kd.V_reads' HO0_2.out).2.2 | (with_reducible refine Kd.C_alloc ?_ _) | (with_reducible refine Kd.C_drewN ?_ _) | (with_reducible refine Kd.C_drew ?_))); (case side2 => exact (Kd.V_reads' HO0_2.out).2.1); rintro e w13 ⟨rfl, hb⟩; refine ⟨_, rfl, ?_⟩; have n0_ := am_ (vb_ (pV_ HO0_2.out) hb); have n1_ := am_ (vb_ (pV_ HO1_3.out) hb); have n2_ := am_ (bw_ (g := gb184) (o := .cells #[.int .i64 a0_0, .int .i64 a0_1, .slice A0_2 l0_2.length c0_2] 35 (0, 0)) (pk_ BK184.out) hb); have n3_ := am_ (bw_ (g := gb185) (o := .cells #[.int .i64 a1_0, .int .i64 a1_1, .int .i64 a1_2, .slice A1_3 l1_3.length c1_3, .int .i64 a1_4] 30 (0, 0)) (pk_ BK185.out) hb); have n4_ := am_ (bw_ (g := gb186) (o := .cells #[.int .i64 0, .int .i64 0, .slice none 0 0] 35 (0, 0)) (pk_ BK186.out) hb); have n5_ := am_ (sp_ (pb3_ HB.out GE184.out GE185.out GE186.out) hb); clear HO0_2; clear HO1_3; clear BK184; clear BK185; clear BK186; clear HB; have HO0_2 := n0_; have HO1_3 := n1_; have BK184 := n2_; have BK185 := n3_; have BK186 := n4_; have HB := n5_; clear n0_ n1_ n2_ n3_ n4_ n5_; (try clear hb); (try clear hb2); (try clear hk); (try clear hi); have hnb14 := NB185_186.out; have hnc14 := NB186_185.out; have hcz15_0 : w13.cell? ⟨gb185, 0, none⟩ = some (.int .i64 a1_0) := (bc_ BK185.out 0).trans rfl; have hcz15_1 : w13.cell? ⟨gb185, 1, none⟩ = some (.int .i64 a1_1) := (bc_ BK185.out 1).trans rfl; have hcz15_2 : w13.cell? ⟨gb185, 2, none⟩ = some (.int .i64 a1_2) := (bc_ BK185.out 2).trans rfl; have hcz15_3 : w13.cell? ⟨gb185, 3, none⟩ = some (.slice A1_3 l1_3.length c1_3) := (bc_ BK185.out 3).trans rfl; have hcz15_4 : w13.cell? ⟨gb185, 4, none⟩ = some (.int .i64 a1_4) := (bc_ BK185.out 4).trans rfl; have hfz15_0 := bf_ BK185.out 0; have hfz15_1 := bf_ BK185.out 1; have hfz15_2 := bf_ BK185.out 2; have hfz15_3 := bf_ BK185.out 3; have hfz15_4 := bf_ BK185.out 4) | (go_at_call 36; (with_reducible refine (replica_Message_valid.calls k a1_0 a1_1 a1_2 _ _ l1_3 a1_4 t188 _ ?side1 ?side2 A9.out).mono ?_); (case side1 => repeat (first | exact (Kd.V_reads' HO1_3.out).2.2 | (with_reducible refine Kd.C_alloc ?_ _) | (with_reducible refine Kd.C_drewN ?_ _) | (with_reducible refine Kd.C_drew ?_))); (case side2 => exact (Kd.V_reads' HO1_3.out).2.1); rintro e w16 ⟨rfl, hb⟩; have n0_ := am_ (vb_ (pV_ HO0_2.out) hb); have n1_ := am_ (vb_ (pV_ HO1_3.out) hb); have n2_ := am_ (bw_ (g := gb184) (o := .cells #[.int .i64 a0_0, .int .i64 a0_1, .slice A0_2 l0_2.length c0_2] 35 (0, 0)) (pk_ BK184.out) hb); have n3_ := am_ (bw_ (g := gb185) (o := .cells #[.int .i64 a1_0, .int .i64 a1_1, .int .i64 a1_2, .slice A1_3 l1_3.length c1_3, .int .i64 a1_4] 30 (0, 0)) (pk_ BK185.out) hb); have n4_ := am_ (bw_ (g := gb186) (o := .cells #[.int .i64 0, .int .i64 0, .slice none 0 0] 35 (0, 0)) (pk_ BK186.out) hb); have n5_ := am_ (sp_ (pb3_ HB.out GE184.out GE185.out GE186.out) hb); clear HO0_2; clear HO1_3; clear BK184; clear BK185; clear BK186; clear HB; have HO0_2 := n0_; have HO1_3 := n1_; have BK184 := n2_; have BK185 := n3_; have BK186 := n4_; have HB := n5_; clear n0_ n1_ n2_ n3_ n4_ n5_; (try clear hb); (try clear hb2); (try clear hk); (try clear hi)))
   go_meet
   case rel => exact ⟨_, (!t188), (by first | rfl | (simp; done) | (simp [*]; done)), H', ⟨by first | omega | exact Nat.le_refl _⟩, ⟨by (with_reducible repeat (first | apply va_ | apply vn_ | apply vd_)); exact vm_ HO0_2.out (fun _ hk => ⟨hk.1.1.1, ⟨hk.1.1.2, ⟨hk.1.2, hk.2⟩⟩⟩)⟩, ⟨by (with_reducible repeat (first | apply va_ | apply vn_ | apply vd_)); exact vm_ HO1_3.out (fun _ hk => ⟨hk.1.1.1, ⟨hk.1.1.2, ⟨hk.1.2, hk.2⟩⟩⟩)⟩, ⟨by (with_reducible repeat (first | refine bn_ ?_ _ | refine bd_ ?_ | refine ba_ ?_ _)); exact BK184.out⟩, ⟨by (with_reducible repeat (first | refine bn_ ?_ _ | refine bd_ ?_ | refine ba_ ?_ _)); exact BK185.out⟩, ⟨by (with_reducible repeat (first | refine bn_ ?_ _ | refine bd_ ?_ | refine ba_ ?_ _)); exact BK186.out⟩, ⟨pb3_ HB.out GE184.out GE185.out GE186.out⟩⟩
  ·
   replace c8 := Bool.eq_false_iff.mpr c8
   subst c8
   have H1 : (replica_Accept.j0 k true a0_0 a0_1 l0_2 a1_0 a1_1 a1_2 l1_3 a1_4) = some (r1, r2, r3, r4, r5) := by rw [if_neg (show ¬ (false = true) by decide)] at H; exact H
   clear H
   have H := H1
   clear H1
   have H' := am_ H
   clear H
   have hnb17 := NB184_185.out
   have hnc17 := NB185_184.out
   have hnb18 := NB184_186.out
   have hnc18 := NB186_184.out
   have hcz19_0 : w6.cell? ⟨gb184, 0, none⟩ = some (.int .i64 a0_0) := (bc_ BK184.out 0).trans rfl
   have hcz19_1 : w6.cell? ⟨gb184, 1, none⟩ = some (.int .i64 a0_1) := (bc_ BK184.out 1).trans rfl
   have hcz19_2 : w6.cell? ⟨gb184, 2, none⟩ = some (.slice A0_2 l0_2.length c0_2) := (bc_ BK184.out 2).trans rfl
   have hfz19_0 := bf_ BK184.out 0
   have hfz19_1 := bf_ BK184.out 1
   have hfz19_2 := bf_ BK184.out 2
   go_wp2_with (first | ((with_reducible refine gate_callee (f := 27) rfl ?_); refine goesL_ (some 12) rfl rfl Try.func27 (by kernel_rfl) rfl #[.agg #[.int .i64 a0_0, .int .i64 a0_1, .slice A0_2 l0_2.length c0_2]] rfl au_ ?_; (with_reducible refine (replica_Node_valid.calls k a0_0 a0_1 _ _ l0_2 false _ ?side1 ?side2 A7.out).mono ?_); (case side1 => repeat (first | exact (Kd.V_reads' HO0_2.out).2.2 | (with_reducible refine Kd.C_alloc ?_ _) | (with_reducible refine Kd.C_drewN ?_ _) | (with_reducible refine Kd.C_drew ?_))); (case side2 => exact (Kd.V_reads' HO0_2.out).2.1); rintro e w20 ⟨rfl, hb⟩; refine ⟨_, rfl, ?_⟩; have n0_ := am_ (vb_ (pV_ HO0_2.out) hb); have n1_ := am_ (vb_ (pV_ HO1_3.out) hb); have n2_ := am_ (bw_ (g := gb184) (o := .cells #[.int .i64 a0_0, .int .i64 a0_1, .slice A0_2 l0_2.length c0_2] 35 (0, 0)) (pk_ BK184.out) hb); have n3_ := am_ (bw_ (g := gb185) (o := .cells #[.int .i64 a1_0, .int .i64 a1_1, .int .i64 a1_2, .slice A1_3 l1_3.length c1_3, .int .i64 a1_4] 30 (0, 0)) (pk_ BK185.out) hb); have n4_ := am_ (bw_ (g := gb186) (o := .cells #[.int .i64 0, .int .i64 0, .slice none 0 0] 35 (0, 0)) (pk_ BK186.out) hb); have n5_ := am_ (sp_ (pb3_ HB.out GE184.out GE185.out GE186.out) hb); clear HO0_2; clear HO1_3; clear BK184; clear BK185; clear BK186; clear HB; have HO0_2 := n0_; have HO1_3 := n1_; have BK184 := n2_; have BK185 := n3_; have BK186 := n4_; have HB := n5_; clear n0_ n1_ n2_ n3_ n4_ n5_; (try clear hb); (try clear hb2); (try clear hk); (try clear hi)))
   go_meet
   case rel => exact ⟨_, (true), (by first | rfl | (simp; done) | (simp [*]; done)), H', ⟨by first | omega | exact Nat.le_refl _⟩, ⟨by (with_reducible repeat (first | apply va_ | apply vn_ | apply vd_)); exact vm_ HO0_2.out (fun _ hk => ⟨hk.1.1.1, ⟨hk.1.1.2, ⟨hk.1.2, hk.2⟩⟩⟩)⟩, ⟨by (with_reducible repeat (first | apply va_ | apply vn_ | apply vd_)); exact vm_ HO1_3.out (fun _ hk => ⟨hk.1.1.1, ⟨hk.1.1.2, ⟨hk.1.2, hk.2⟩⟩⟩)⟩, ⟨by (with_reducible repeat (first | refine bn_ ?_ _ | refine bd_ ?_ | refine ba_ ?_ _)); exact BK184.out⟩, ⟨by (with_reducible repeat (first | refine bn_ ?_ _ | refine bd_ ?_ | refine ba_ ?_ _)); exact BK185.out⟩, ⟨by (with_reducible repeat (first | refine bn_ ?_ _ | refine bd_ ?_ | refine ba_ ?_ _)); exact BK186.out⟩, ⟨pb3_ HB.out GE184.out GE185.out GE186.out⟩⟩
 case rest =>
  clear HC3
  try clear c1
  try clear c2
  try clear p2
  try clear c8
  try clear c10
  try clear c11
  try clear c14
  try clear c17
  try clear c18
  try clear hcz12_0
  try clear hcz12_1
  try clear hcz12_2
  try clear hcz15_0
  try clear hcz15_1
  try clear hcz15_2
  try clear hcz15_3
  try clear hcz15_4
  try clear hcz19_0
  try clear hcz19_1
  try clear hcz19_2
  try clear hfz12_0
  try clear hfz12_1
  try clear hfz12_2
  try clear hfz15_0
  try clear hfz15_1
  try clear hfz15_2
  try clear hfz15_3
  try clear hfz15_4
  try clear hfz19_0
  try clear hfz19_1
  try clear hfz19_2
  obtain ⟨kq, x10_2, rfl, HA, HJ2, HO_185002, HO_186003, BK184, BK185, BK186, HB⟩ := hcut
  cases kq with
  | zero => exact absurd HA.out (by simp [replica_Accept.j0])
  | succ kj2 =>
   have H := HA.out
   clear HA
   simp only [replica_Accept.j0] at H
   by_cases c21 : x10_2 = true
   ·
    subst c21
    have H1 : (some (0, 0, ([] : List (S87)), 0, 8)) = some (r1, r2, r3, r4, r5) := by rw [if_pos rfl] at H; exact H
    clear H
    have H := H1
    clear H1
    simp only [Option.some.injEq, Prod.mk.injEq] at H
    obtain ⟨rfl, rfl, rfl, rfl, rfl⟩ := H
    have hnb22 := NB186_184.out
    have hnc22 := NB184_186.out
    have hnb23 := NB186_185.out
    have hnc23 := NB185_186.out
    have hcz24_0 : wc.cell? ⟨gb186, 0, none⟩ = some (.int .i64 0) := (bc_ BK186.out 0).trans rfl
    have hcz24_1 : wc.cell? ⟨gb186, 1, none⟩ = some (.int .i64 0) := (bc_ BK186.out 1).trans rfl
    have hcz24_2 : wc.cell? ⟨gb186, 2, none⟩ = some (.slice none 0 0) := (bc_ BK186.out 2).trans rfl
    have hfz24_0 := bf_ BK186.out 0
    have hfz24_1 := bf_ BK186.out 1
    have hfz24_2 := bf_ BK186.out 2
    go_wp2
    refine bodyPost_ret (results_ctt rfl _ _ gb186 35 #[.int .i64 0, .int .i64 0, .slice none 0 0] (0, 0) _ rfl (by (with_reducible repeat (first | refine bn_ ?_ _ | refine bd_ ?_ | refine ba_ ?_ _)); refine blk_put (cs := #[.int .i64 0, .int .i64 0, .slice none 0 0]) ?_ 2 _ rfl; (with_reducible repeat (first | refine bn_ ?_ _ | refine bd_ ?_ | refine ba_ ?_ _)); refine blk_put (cs := #[.int .i64 0, .int .i64 0, .slice none 0 0]) ?_ 1 _ rfl; (with_reducible repeat (first | refine bn_ ?_ _ | refine bd_ ?_ | refine ba_ ?_ _)); refine blk_put (cs := #[.int .i64 0, .int .i64 0, .slice none 0 0]) ?_ 0 _ rfl; (with_reducible repeat (first | refine bn_ ?_ _ | refine bd_ ?_ | refine ba_ ?_ _)); exact BK186.out) Try.underlying35 rfl (by kernel_rfl)) rfl ?_
    exact ⟨_, by first | rfl | (simp [errW_none, errW_some] <;> rfl) | (simp [*, errW_none, errW_some] <;> rfl), by first | exact Kd.S_nil _ _ _ _ _ | exact Kd.N_nil _ _ _ _ _ | exact Kd.V_nil _ _ _ _ _ | exact Kd.Q_nil _ _ _ _ _ | exact Kd.R_nil _ _ _ _ _, pb3_ HB.out GE184.out GE185.out GE186.out⟩
   ·
    replace c21 := Bool.eq_false_iff.mpr c21
    subst c21
    have H1 : (if a1_0 < a0_0 then (some (0, 0, ([] : List (S87)), 0, 22)) else (if (l0_2.length : Int) < a1_1 then (some (0, 0, ([] : List (S87)), 0, 9)) else ((replica_Node_end.f a0_0 a0_1 l0_2 a1_1).bind fun t189 => (if t189 = a1_2 then ((replica_agreed.f kj2 a0_0 a0_1 l0_2 a1_0 a1_1 a1_2 l1_3 a1_4).bind fun t190 => ((replica_copied.f kj2 l0_2).bind fun t191 => (if t190 < (wrap64 (a1_1 + (l1_3.length : Int))) then (if t190 < a0_1 then (some (0, 0, ([] : List (S87)), 0, 21)) else (if 0 ≤ t190 then (if t190 ≤ (t191.length : Int) then ((some (t191.take (t190 : Int).toNat : List (S87))).bind fun y195 => (if 0 ≤ (wrap64 (t190 - a1_1)) then (if (wrap64 (t190 - a1_1)) ≤ (l1_3.length : Int) then ((replica_copied.f kj2 (l1_3.drop ((wrap64 (t190 - a1_1)) : Int).toNat)).bind fun t203 => (if y195.length + t203.length < 4398046511104 then (some (a1_0, mx a0_1 (mn a1_4 (wrap64 (a1_1 + (l1_3.length : Int)))), (y195 ++ t203), wrap64 (a1_1 + (l1_3.length : Int)), 0)) else (none))) else (none)) else (none))) else (none)) else (none))) else (some (a1_0, mx a0_1 (mn a1_4 (wrap64 (a1_1 + (l1_3.length : Int)))), t191, wrap64 (a1_1 + (l1_3.length : Int)), 0))))) else (some (0, 0, ([] : List (S87)), 0, 9)))))) = some (r1, r2, r3, r4, r5) := by rw [if_neg (show ¬ (false = true) by decide)] at H; exact H
    clear H
    have H := H1
    clear H1
    by_cases c25 : a1_0 < a0_0
    ·
     rw [if_pos c25] at H
     have c25b0 : decide (a1_0 < a0_0) = true := de_ c25
     clear c25
     simp only [Option.some.injEq, Prod.mk.injEq] at H
     obtain ⟨rfl, rfl, rfl, rfl, rfl⟩ := H
     have hnb26 := NB185_184.out
     have hnc26 := NB184_185.out
     have hnb27 := NB185_186.out
     have hnc27 := NB186_185.out
     have hcz28_0 : wc.cell? ⟨gb185, 0, none⟩ = some (.int .i64 a1_0) := (bc_ BK185.out 0).trans rfl
     have hcz28_1 : wc.cell? ⟨gb185, 1, none⟩ = some (.int .i64 a1_1) := (bc_ BK185.out 1).trans rfl
     have hcz28_2 : wc.cell? ⟨gb185, 2, none⟩ = some (.int .i64 a1_2) := (bc_ BK185.out 2).trans rfl
     have hcz28_3 : wc.cell? ⟨gb185, 3, none⟩ = some (.slice A1_3 l1_3.length c1_3) := (bc_ BK185.out 3).trans rfl
     have hcz28_4 : wc.cell? ⟨gb185, 4, none⟩ = some (.int .i64 a1_4) := (bc_ BK185.out 4).trans rfl
     have hfz28_0 := bf_ BK185.out 0
     have hfz28_1 := bf_ BK185.out 1
     have hfz28_2 := bf_ BK185.out 2
     have hfz28_3 := bf_ BK185.out 3
     have hfz28_4 := bf_ BK185.out 4
     have hnb29 := NB184_186.out
     have hnc29 := NB186_184.out
     have hcz30_0 : wc.cell? ⟨gb184, 0, none⟩ = some (.int .i64 a0_0) := (bc_ BK184.out 0).trans rfl
     have hcz30_1 : wc.cell? ⟨gb184, 1, none⟩ = some (.int .i64 a0_1) := (bc_ BK184.out 1).trans rfl
     have hcz30_2 : wc.cell? ⟨gb184, 2, none⟩ = some (.slice A0_2 l0_2.length c0_2) := (bc_ BK184.out 2).trans rfl
     have hfz30_0 := bf_ BK184.out 0
     have hfz30_1 := bf_ BK184.out 1
     have hfz30_2 := bf_ BK184.out 2
     have hcz31_0 : wc.cell? ⟨gb186, 0, none⟩ = some (.int .i64 0) := (bc_ BK186.out 0).trans rfl
     have hcz31_1 : wc.cell? ⟨gb186, 1, none⟩ = some (.int .i64 0) := (bc_ BK186.out 1).trans rfl
     have hcz31_2 : wc.cell? ⟨gb186, 2, none⟩ = some (.slice none 0 0) := (bc_ BK186.out 2).trans rfl
     have hfz31_0 := bf_ BK186.out 0
     have hfz31_1 := bf_ BK186.out 1
     have hfz31_2 := bf_ BK186.out 2
     go_wp2
     refine bodyPost_ret (results_ctt rfl _ _ gb186 35 #[.int .i64 0, .int .i64 0, .slice none 0 0] (0, 0) _ rfl (by (with_reducible repeat (first | refine bn_ ?_ _ | refine bd_ ?_ | refine ba_ ?_ _)); refine blk_put (cs := #[.int .i64 0, .int .i64 0, .slice none 0 0]) ?_ 2 _ rfl; (with_reducible repeat (first | refine bn_ ?_ _ | refine bd_ ?_ | refine ba_ ?_ _)); refine blk_put (cs := #[.int .i64 0, .int .i64 0, .slice none 0 0]) ?_ 1 _ rfl; (with_reducible repeat (first | refine bn_ ?_ _ | refine bd_ ?_ | refine ba_ ?_ _)); refine blk_put (cs := #[.int .i64 0, .int .i64 0, .slice none 0 0]) ?_ 0 _ rfl; (with_reducible repeat (first | refine bn_ ?_ _ | refine bd_ ?_ | refine ba_ ?_ _)); exact BK186.out) Try.underlying35 rfl (by kernel_rfl)) rfl ?_
     exact ⟨_, by first | rfl | (simp [errW_none, errW_some] <;> rfl) | (simp [*, errW_none, errW_some] <;> rfl), by first | exact Kd.S_nil _ _ _ _ _ | exact Kd.N_nil _ _ _ _ _ | exact Kd.V_nil _ _ _ _ _ | exact Kd.Q_nil _ _ _ _ _ | exact Kd.R_nil _ _ _ _ _, pb3_ HB.out GE184.out GE185.out GE186.out⟩
    ·
     rw [if_neg c25] at H
     have c25b0 : decide (a1_0 < a0_0) = false := df_ c25
     clear c25
     by_cases c32 : (l0_2.length : Int) < a1_1
     ·
      rw [if_pos c32] at H
      have c32b0 : decide ((l0_2.length : Int) < a1_1) = true := de_ c32
      clear c32
      simp only [Option.some.injEq, Prod.mk.injEq] at H
      obtain ⟨rfl, rfl, rfl, rfl, rfl⟩ := H
      have hnb33 := NB185_184.out
      have hnc33 := NB184_185.out
      have hnb34 := NB185_186.out
      have hnc34 := NB186_185.out
      have hcz35_0 : wc.cell? ⟨gb185, 0, none⟩ = some (.int .i64 a1_0) := (bc_ BK185.out 0).trans rfl
      have hcz35_1 : wc.cell? ⟨gb185, 1, none⟩ = some (.int .i64 a1_1) := (bc_ BK185.out 1).trans rfl
      have hcz35_2 : wc.cell? ⟨gb185, 2, none⟩ = some (.int .i64 a1_2) := (bc_ BK185.out 2).trans rfl
      have hcz35_3 : wc.cell? ⟨gb185, 3, none⟩ = some (.slice A1_3 l1_3.length c1_3) := (bc_ BK185.out 3).trans rfl
      have hcz35_4 : wc.cell? ⟨gb185, 4, none⟩ = some (.int .i64 a1_4) := (bc_ BK185.out 4).trans rfl
      have hfz35_0 := bf_ BK185.out 0
      have hfz35_1 := bf_ BK185.out 1
      have hfz35_2 := bf_ BK185.out 2
      have hfz35_3 := bf_ BK185.out 3
      have hfz35_4 := bf_ BK185.out 4
      have hnb36 := NB184_186.out
      have hnc36 := NB186_184.out
      have hcz37_0 : wc.cell? ⟨gb184, 0, none⟩ = some (.int .i64 a0_0) := (bc_ BK184.out 0).trans rfl
      have hcz37_1 : wc.cell? ⟨gb184, 1, none⟩ = some (.int .i64 a0_1) := (bc_ BK184.out 1).trans rfl
      have hcz37_2 : wc.cell? ⟨gb184, 2, none⟩ = some (.slice A0_2 l0_2.length c0_2) := (bc_ BK184.out 2).trans rfl
      have hfz37_0 := bf_ BK184.out 0
      have hfz37_1 := bf_ BK184.out 1
      have hfz37_2 := bf_ BK184.out 2
      try go_wp2
      have n0_ := am_ (vd_ HO_185002.out)
      have n1_ := am_ (vd_ HO_186003.out)
      have n2_ := am_ (bd_ BK184.out)
      have n3_ := am_ (bd_ BK185.out)
      have n4_ := am_ (bd_ BK186.out)
      have n5_ := am_ (b1_ HB.out)
      clear HO_185002
      clear HO_186003
      clear BK184
      clear BK185
      clear BK186
      clear HB
      have HO_185002 := n0_
      have HO_186003 := n1_
      have BK184 := n2_
      have BK185 := n3_
      have BK186 := n4_
      have HB := n5_
      clear n0_ n1_ n2_ n3_ n4_ n5_
      refine start_ (n := 16) (S := fun w' => w'.cell? ⟨gb184, 0, none⟩ = some (.int .i64 a0_0) ∧ w'.cell? ⟨gb184, 1, none⟩ = some (.int .i64 a0_1) ∧ w'.cell? ⟨gb184, 2, none⟩ = some (.slice A0_2 l0_2.length c0_2) ∧ w'.cell? ⟨gb185, 0, none⟩ = some (.int .i64 a1_0) ∧ w'.cell? ⟨gb185, 1, none⟩ = some (.int .i64 a1_1) ∧ w'.cell? ⟨gb185, 2, none⟩ = some (.int .i64 a1_2) ∧ w'.cell? ⟨gb185, 3, none⟩ = some (.slice A1_3 l1_3.length c1_3) ∧ w'.cell? ⟨gb185, 4, none⟩ = some (.int .i64 a1_4)) (ds := []) #[false, false, false, false, false, false, false, false, false, false, false, false, false, false, false, false] (by kernel_rfl) rfl rfl ⟨(bc_ BK184.out 0).trans rfl, (bc_ BK184.out 1).trans rfl, (bc_ BK184.out 2).trans rfl, (bc_ BK185.out 0).trans rfl, (bc_ BK185.out 1).trans rfl, (bc_ BK185.out 2).trans rfl, (bc_ BK185.out 3).trans rfl, (bc_ BK185.out 4).trans rfl⟩ (fun hHeld => ?_); refine with_tabW replica_Accept.tab5 replica_Accept.bits5 (fun HT_ HW_ => ?_)
      generalize wc.drew = w38 at HO_185002 HO_186003 BK184 BK185 BK186 HB hHeld ⊢
      refine pure_ (i := 0) (N := some 28) (v := ?_) (a' := ?_) #[true, false, false, false, false, false, false, false, false, false, false, false, false, false, false, false] rfl rfl (any_of HT_.out (by kernel_rfl)) (fun _ _ _ h => h) (Or.inl ⟨by rfl, ?_⟩) ?_ ?_
      rotate_left
      ·
       intro w'
       go_simp
       with_reducible rfl
      rotate_left
      ·
       simp only [Act.put, lt1_, lt2_, lt3_, i64_w, i32_w]
       rfl
      refine pure_ (i := 3) (N := some 31) (v := ?_) (a' := ?_) #[true, false, false, true, false, false, false, false, false, false, false, false, false, false, false, false] rfl rfl (any_of HT_.out (by kernel_rfl)) (fun _ _ _ h => h) (Or.inl ⟨by rfl, ?_⟩) ?_ ?_
      rotate_left
      ·
       intro w'
       go_simp
       with_reducible rfl
      rotate_left
      ·
       simp only [Act.put, lt1_, lt2_, lt3_, i64_w, i32_w]
       rfl
      refine take_ (i := 1) (N := some 29) (v := ?_) (a' := ?_) #[true, true, false, true, false, false, false, false, false, false, false, false, false, false, false, false] rfl rfl (take_ofW HT_.out HW_.out (by kernel_rfl)) (fun _ _ _ h => h) (Or.inl ⟨by rfl, ?_⟩) hHeld ?_ ?_
      rotate_left
      ·
       rintro w' ⟨s0, s1, s2, s3, s4, s5, s6, s7⟩
       go_simp
       with_reducible rfl
      rotate_left
      ·
       simp only [Act.put, lt1_, lt2_, lt3_, i64_w, i32_w]
       rfl
      refine pure_ (i := 2) (N := some 30) (v := ?_) (a' := ?_) #[true, true, true, true, false, false, false, false, false, false, false, false, false, false, false, false] rfl rfl (any_of HT_.out (by kernel_rfl)) (fun _ _ _ h => h) (Or.inl ⟨by rfl, ?_⟩) ?_ ?_
      rotate_left
      ·
       intro w'
       go_simp
       with_reducible rfl
      rotate_left
      ·
       simp only [Act.put, lt1_, lt2_, lt3_, i64_w, i32_w]
       rfl
      refine take_ (i := 4) (N := some 32) (v := ?_) (a' := ?_) #[true, true, true, true, true, false, false, false, false, false, false, false, false, false, false, false] rfl rfl (take_ofW HT_.out HW_.out (by kernel_rfl)) (fun _ _ _ h => h) (Or.inl ⟨by rfl, ?_⟩) hHeld ?_ ?_
      rotate_left
      ·
       rintro w' ⟨s0, s1, s2, s3, s4, s5, s6, s7⟩
       go_simp
       with_reducible rfl
      rotate_left
      ·
       simp only [Act.put, lt1_, lt2_, lt3_, i64_w, i32_w]
       rfl
      refine pure_ (i := 5) (N := some 33) (v := ?_) (a' := ?_) #[true, true, true, true, true, true, false, false, false, false, false, false, false, false, false, false] rfl rfl (any_of HT_.out (by kernel_rfl)) (fun _ _ _ h => h) (Or.inl ⟨by rfl, ?_⟩) ?_ ?_
      rotate_left
      ·
       intro w'
       go_simp
       with_reducible rfl
      rotate_left
      ·
       simp only [Act.put, lt1_, lt2_, lt3_, i64_w, i32_w]
       rfl
      refine pure_ (i := 6) (N := some 34) (v := ?_) (a' := ?_) #[true, true, true, true, true, true, true, false, false, false, false, false, false, false, false, false] rfl rfl (any_of HT_.out (by kernel_rfl)) (fun _ _ _ h => h) (Or.inl ⟨by rfl, ?_⟩) ?_ ?_
      rotate_left
      ·
       intro w'
       go_simp
       with_reducible rfl
      rotate_left
      ·
       simp only [Act.put, lt1_, lt2_, lt3_, i64_w, i32_w]
       rfl
      refine pure_ (i := 7) (N := some 35) (v := undef) (a' := ?_) #[true, true, true, true, true, true, true, true, false, false, false, false, false, false, false, false] rfl rfl (any_of HT_.out (by kernel_rfl)) (fun _ _ _ h => h) (Or.inr ⟨by rfl, rfl⟩) ?_ ?_
      rotate_left
      ·
       simp only [Act.put, lt1_, lt2_, lt3_, i64_w, i32_w]
       rfl
      refine pure_ (i := 8) (N := some 36) (v := undef) (a' := ?_) #[true, true, true, true, true, true, true, true, true, false, false, false, false, false, false, false] rfl rfl (any_of HT_.out (by kernel_rfl)) (fun _ _ _ h => h) (Or.inr ⟨by rfl, rfl⟩) ?_ ?_
      rotate_left
      ·
       simp only [Act.put, lt1_, lt2_, lt3_, i64_w, i32_w]
       rfl
      refine pure_ (i := 9) (N := some 37) (v := undef) (a' := ?_) #[true, true, true, true, true, true, true, true, true, true, false, false, false, false, false, false] rfl rfl (any_of HT_.out (by kernel_rfl)) (fun _ _ _ h => h) (Or.inr ⟨by rfl, rfl⟩) ?_ ?_
      rotate_left
      ·
       simp only [Act.put, lt1_, lt2_, lt3_, i64_w, i32_w]
       rfl
      refine pure_ (i := 10) (N := some 38) (v := undef) (a' := ?_) #[true, true, true, true, true, true, true, true, true, true, true, false, false, false, false, false] rfl rfl (any_of HT_.out (by kernel_rfl)) (fun _ _ _ h => h) (Or.inr ⟨by rfl, rfl⟩) ?_ ?_
      rotate_left
      ·
       simp only [Act.put, lt1_, lt2_, lt3_, i64_w, i32_w]
       rfl
      refine pure_ (i := 11) (N := some 39) (v := undef) (a' := ?_) #[true, true, true, true, true, true, true, true, true, true, true, true, false, false, false, false] rfl rfl (any_of HT_.out (by kernel_rfl)) (fun _ _ _ h => h) (Or.inr ⟨by rfl, rfl⟩) ?_ ?_
      rotate_left
      ·
       simp only [Act.put, lt1_, lt2_, lt3_, i64_w, i32_w]
       rfl
      refine pure_ (i := 12) (N := some 40) (v := undef) (a' := ?_) #[true, true, true, true, true, true, true, true, true, true, true, true, true, false, false, false] rfl rfl (any_of HT_.out (by kernel_rfl)) (fun _ _ _ h => h) (Or.inr ⟨by rfl, rfl⟩) ?_ ?_
      rotate_left
      ·
       simp only [Act.put, lt1_, lt2_, lt3_, i64_w, i32_w]
       rfl
      refine pure_ (i := 13) (N := some 41) (v := undef) (a' := ?_) #[true, true, true, true, true, true, true, true, true, true, true, true, true, true, false, false] rfl rfl (any_of HT_.out (by kernel_rfl)) (fun _ _ _ h => h) (Or.inr ⟨by rfl, rfl⟩) ?_ ?_
      rotate_left
      ·
       simp only [Act.put, lt1_, lt2_, lt3_, i64_w, i32_w]
       rfl
      refine pure_ (i := 14) (N := some 42) (v := ?_) (a' := ?_) #[true, true, true, true, true, true, true, true, true, true, true, true, true, true, true, false] rfl rfl (any_of HT_.out (by kernel_rfl)) (fun _ _ _ h => h) (Or.inl ⟨by rfl, ?_⟩) ?_ ?_
      rotate_left
      ·
       intro w'
       go_simp
       with_reducible rfl
      rotate_left
      ·
       simp only [Act.put, lt1_, lt2_, lt3_, i64_w, i32_w]
       rfl
      refine pure_ (i := 15) (N := some 27) (v := ?_) (a' := ?_) #[true, true, true, true, true, true, true, true, true, true, true, true, true, true, true, true] rfl rfl (any_of HT_.out (by kernel_rfl)) (fun _ _ _ h => h) (Or.inl ⟨by rfl, ?_⟩) ?_ ?_
      rotate_left
      ·
       intro w'
       go_simp
       with_reducible rfl
      rotate_left
      ·
       simp only [Act.put, lt1_, lt2_, lt3_, i64_w, i32_w]
       rfl
      refine done_ (done_of HT_.out (by kernel_rfl)) ?_
      have hcz39_0 : w38.cell? ⟨gb186, 0, none⟩ = some (.int .i64 0) := (bc_ BK186.out 0).trans rfl
      have hcz39_1 : w38.cell? ⟨gb186, 1, none⟩ = some (.int .i64 0) := (bc_ BK186.out 1).trans rfl
      have hcz39_2 : w38.cell? ⟨gb186, 2, none⟩ = some (.slice none 0 0) := (bc_ BK186.out 2).trans rfl
      have hfz39_0 := bf_ BK186.out 0
      have hfz39_1 := bf_ BK186.out 1
      have hfz39_2 := bf_ BK186.out 2
      try go_wp2
      refine bodyPost_ret (results_ctt rfl _ _ gb186 35 #[.int .i64 0, .int .i64 0, .slice none 0 0] (0, 0) _ rfl (by (with_reducible repeat (first | refine bn_ ?_ _ | refine bd_ ?_ | refine ba_ ?_ _)); refine blk_put (cs := #[.int .i64 0, .int .i64 0, .slice none 0 0]) ?_ 2 _ rfl; (with_reducible repeat (first | refine bn_ ?_ _ | refine bd_ ?_ | refine ba_ ?_ _)); refine blk_put (cs := #[.int .i64 0, .int .i64 0, .slice none 0 0]) ?_ 1 _ rfl; (with_reducible repeat (first | refine bn_ ?_ _ | refine bd_ ?_ | refine ba_ ?_ _)); refine blk_put (cs := #[.int .i64 0, .int .i64 0, .slice none 0 0]) ?_ 0 _ rfl; (with_reducible repeat (first | refine bn_ ?_ _ | refine bd_ ?_ | refine ba_ ?_ _)); exact BK186.out) Try.underlying35 rfl (by kernel_rfl)) rfl ?_
      exact ⟨_, by first | rfl | (simp [errW_none, errW_some] <;> rfl) | (simp [*, errW_none, errW_some] <;> rfl), by first | exact Kd.S_nil _ _ _ _ _ | exact Kd.N_nil _ _ _ _ _ | exact Kd.V_nil _ _ _ _ _ | exact Kd.Q_nil _ _ _ _ _ | exact Kd.R_nil _ _ _ _ _, pb3_ HB.out GE184.out GE185.out GE186.out⟩
     ·
      rw [if_neg c32] at H
      have c32b0 : decide ((l0_2.length : Int) < a1_1) = false := df_ c32
      clear c32
      replace H := Option.bind_eq_some_iff.mp H
      obtain ⟨t189, A400, H⟩ := H
      replace H : (if t189 = a1_2 then ((replica_agreed.f kj2 a0_0 a0_1 l0_2 a1_0 a1_1 a1_2 l1_3 a1_4).bind fun t190 => ((replica_copied.f kj2 l0_2).bind fun t191 => (if t190 < (wrap64 (a1_1 + (l1_3.length : Int))) then (if t190 < a0_1 then (some (0, 0, ([] : List (S87)), 0, 21)) else (if 0 ≤ t190 then (if t190 ≤ (t191.length : Int) then ((some (t191.take (t190 : Int).toNat : List (S87))).bind fun y195 => (if 0 ≤ (wrap64 (t190 - a1_1)) then (if (wrap64 (t190 - a1_1)) ≤ (l1_3.length : Int) then ((replica_copied.f kj2 (l1_3.drop ((wrap64 (t190 - a1_1)) : Int).toNat)).bind fun t203 => (if y195.length + t203.length < 4398046511104 then (some (a1_0, mx a0_1 (mn a1_4 (wrap64 (a1_1 + (l1_3.length : Int)))), (y195 ++ t203), wrap64 (a1_1 + (l1_3.length : Int)), 0)) else (none))) else (none)) else (none))) else (none)) else (none))) else (some (a1_0, mx a0_1 (mn a1_4 (wrap64 (a1_1 + (l1_3.length : Int)))), t191, wrap64 (a1_1 + (l1_3.length : Int)), 0))))) else (some (0, 0, ([] : List (S87)), 0, 9))) = some (r1, r2, r3, r4, r5) := H
      have A40 := am_ A400
      clear A400
      by_cases c41 : t189 = a1_2
      ·
       rw [if_pos c41] at H
       have c41b0 : (t189 == a1_2) = true := beq_iff_eq.mpr c41
       have c41b1 : (t189 != a1_2) = false := bne_eq_false_iff_eq.mpr c41
       clear c41
       replace H := Option.bind_eq_some_iff.mp H
       obtain ⟨t190, A420, H⟩ := H
       replace H : ((replica_copied.f kj2 l0_2).bind fun t191 => (if t190 < (wrap64 (a1_1 + (l1_3.length : Int))) then (if t190 < a0_1 then (some (0, 0, ([] : List (S87)), 0, 21)) else (if 0 ≤ t190 then (if t190 ≤ (t191.length : Int) then ((some (t191.take (t190 : Int).toNat : List (S87))).bind fun y195 => (if 0 ≤ (wrap64 (t190 - a1_1)) then (if (wrap64 (t190 - a1_1)) ≤ (l1_3.length : Int) then ((replica_copied.f kj2 (l1_3.drop ((wrap64 (t190 - a1_1)) : Int).toNat)).bind fun t203 => (if y195.length + t203.length < 4398046511104 then (some (a1_0, mx a0_1 (mn a1_4 (wrap64 (a1_1 + (l1_3.length : Int)))), (y195 ++ t203), wrap64 (a1_1 + (l1_3.length : Int)), 0)) else (none))) else (none)) else (none))) else (none)) else (none))) else (some (a1_0, mx a0_1 (mn a1_4 (wrap64 (a1_1 + (l1_3.length : Int)))), t191, wrap64 (a1_1 + (l1_3.length : Int)), 0)))) = some (r1, r2, r3, r4, r5) := H
       have A42 := am_ A420
       clear A420
       replace H := Option.bind_eq_some_iff.mp H
       obtain ⟨t191, A430, H⟩ := H
       replace H : (if t190 < (wrap64 (a1_1 + (l1_3.length : Int))) then (if t190 < a0_1 then (some (0, 0, ([] : List (S87)), 0, 21)) else (if 0 ≤ t190 then (if t190 ≤ (t191.length : Int) then ((some (t191.take (t190 : Int).toNat : List (S87))).bind fun y195 => (if 0 ≤ (wrap64 (t190 - a1_1)) then (if (wrap64 (t190 - a1_1)) ≤ (l1_3.length : Int) then ((replica_copied.f kj2 (l1_3.drop ((wrap64 (t190 - a1_1)) : Int).toNat)).bind fun t203 => (if y195.length + t203.length < 4398046511104 then (some (a1_0, mx a0_1 (mn a1_4 (wrap64 (a1_1 + (l1_3.length : Int)))), (y195 ++ t203), wrap64 (a1_1 + (l1_3.length : Int)), 0)) else (none))) else (none)) else (none))) else (none)) else (none))) else (some (a1_0, mx a0_1 (mn a1_4 (wrap64 (a1_1 + (l1_3.length : Int)))), t191, wrap64 (a1_1 + (l1_3.length : Int)), 0))) = some (r1, r2, r3, r4, r5) := H
       have A43 := am_ A430
       clear A430
       by_cases c44 : t190 < (wrap64 (a1_1 + (l1_3.length : Int)))
       ·
        rw [if_pos c44] at H
        have c44b0 : decide (t190 < (wrap64 (a1_1 + (l1_3.length : Int)))) = true := de_ c44
        clear c44
        by_cases c45 : t190 < a0_1
        ·
         rw [if_pos c45] at H
         have c45b0 : decide (t190 < a0_1) = true := de_ c45
         clear c45
         simp only [Option.some.injEq, Prod.mk.injEq] at H
         obtain ⟨rfl, rfl, rfl, rfl, rfl⟩ := H
         have hnb46 := NB185_184.out
         have hnc46 := NB184_185.out
         have hnb47 := NB185_186.out
         have hnc47 := NB186_185.out
         have hcz48_0 : wc.cell? ⟨gb185, 0, none⟩ = some (.int .i64 a1_0) := (bc_ BK185.out 0).trans rfl
         have hcz48_1 : wc.cell? ⟨gb185, 1, none⟩ = some (.int .i64 a1_1) := (bc_ BK185.out 1).trans rfl
         have hcz48_2 : wc.cell? ⟨gb185, 2, none⟩ = some (.int .i64 a1_2) := (bc_ BK185.out 2).trans rfl
         have hcz48_3 : wc.cell? ⟨gb185, 3, none⟩ = some (.slice A1_3 l1_3.length c1_3) := (bc_ BK185.out 3).trans rfl
         have hcz48_4 : wc.cell? ⟨gb185, 4, none⟩ = some (.int .i64 a1_4) := (bc_ BK185.out 4).trans rfl
         have hfz48_0 := bf_ BK185.out 0
         have hfz48_1 := bf_ BK185.out 1
         have hfz48_2 := bf_ BK185.out 2
         have hfz48_3 := bf_ BK185.out 3
         have hfz48_4 := bf_ BK185.out 4
         have hnb49 := NB184_186.out
         have hnc49 := NB186_184.out
         have hcz50_0 : wc.cell? ⟨gb184, 0, none⟩ = some (.int .i64 a0_0) := (bc_ BK184.out 0).trans rfl
         have hcz50_1 : wc.cell? ⟨gb184, 1, none⟩ = some (.int .i64 a0_1) := (bc_ BK184.out 1).trans rfl
         have hcz50_2 : wc.cell? ⟨gb184, 2, none⟩ = some (.slice A0_2 l0_2.length c0_2) := (bc_ BK184.out 2).trans rfl
         have hfz50_0 := bf_ BK184.out 0
         have hfz50_1 := bf_ BK184.out 1
         have hfz50_2 := bf_ BK184.out 2
         try go_wp2
         have n0_ := am_ (vd_ HO_185002.out)
         have n1_ := am_ (vd_ HO_186003.out)
         have n2_ := am_ (bd_ BK184.out)
         have n3_ := am_ (bd_ BK185.out)
         have n4_ := am_ (bd_ BK186.out)
         have n5_ := am_ (b1_ HB.out)
         clear HO_185002
         clear HO_186003
         clear BK184
         clear BK185
         clear BK186
         clear HB
         have HO_185002 := n0_
         have HO_186003 := n1_
         have BK184 := n2_
         have BK185 := n3_
         have BK186 := n4_
         have HB := n5_
         clear n0_ n1_ n2_ n3_ n4_ n5_
         refine start_ (n := 16) (S := fun w' => w'.cell? ⟨gb184, 0, none⟩ = some (.int .i64 a0_0) ∧ w'.cell? ⟨gb184, 1, none⟩ = some (.int .i64 a0_1) ∧ w'.cell? ⟨gb184, 2, none⟩ = some (.slice A0_2 l0_2.length c0_2) ∧ w'.cell? ⟨gb185, 0, none⟩ = some (.int .i64 a1_0) ∧ w'.cell? ⟨gb185, 1, none⟩ = some (.int .i64 a1_1) ∧ w'.cell? ⟨gb185, 2, none⟩ = some (.int .i64 a1_2) ∧ w'.cell? ⟨gb185, 3, none⟩ = some (.slice A1_3 l1_3.length c1_3) ∧ w'.cell? ⟨gb185, 4, none⟩ = some (.int .i64 a1_4)) (ds := []) #[false, false, false, false, false, false, false, false, false, false, false, false, false, false, false, false] (by kernel_rfl) rfl rfl ⟨(bc_ BK184.out 0).trans rfl, (bc_ BK184.out 1).trans rfl, (bc_ BK184.out 2).trans rfl, (bc_ BK185.out 0).trans rfl, (bc_ BK185.out 1).trans rfl, (bc_ BK185.out 2).trans rfl, (bc_ BK185.out 3).trans rfl, (bc_ BK185.out 4).trans rfl⟩ (fun hHeld => ?_); refine with_tabW replica_Accept.tab5 replica_Accept.bits5 (fun HT_ HW_ => ?_)
         generalize wc.drew = w51 at HO_185002 HO_186003 BK184 BK185 BK186 HB hHeld ⊢
         refine pure_ (i := 0) (N := some 28) (v := ?_) (a' := ?_) #[true, false, false, false, false, false, false, false, false, false, false, false, false, false, false, false] rfl rfl (any_of HT_.out (by kernel_rfl)) (fun _ _ _ h => h) (Or.inl ⟨by rfl, ?_⟩) ?_ ?_
         rotate_left
         ·
          intro w'
          go_simp
          with_reducible rfl
         rotate_left
         ·
          simp only [Act.put, lt1_, lt2_, lt3_, i64_w, i32_w]
          rfl
         refine pure_ (i := 3) (N := some 31) (v := ?_) (a' := ?_) #[true, false, false, true, false, false, false, false, false, false, false, false, false, false, false, false] rfl rfl (any_of HT_.out (by kernel_rfl)) (fun _ _ _ h => h) (Or.inl ⟨by rfl, ?_⟩) ?_ ?_
         rotate_left
         ·
          intro w'
          go_simp
          with_reducible rfl
         rotate_left
         ·
          simp only [Act.put, lt1_, lt2_, lt3_, i64_w, i32_w]
          rfl
         refine take_ (i := 1) (N := some 29) (v := ?_) (a' := ?_) #[true, true, false, true, false, false, false, false, false, false, false, false, false, false, false, false] rfl rfl (take_ofW HT_.out HW_.out (by kernel_rfl)) (fun _ _ _ h => h) (Or.inl ⟨by rfl, ?_⟩) hHeld ?_ ?_
         rotate_left
         ·
          rintro w' ⟨s0, s1, s2, s3, s4, s5, s6, s7⟩
          go_simp
          with_reducible rfl
         rotate_left
         ·
          simp only [Act.put, lt1_, lt2_, lt3_, i64_w, i32_w]
          rfl
         refine pure_ (i := 2) (N := some 30) (v := ?_) (a' := ?_) #[true, true, true, true, false, false, false, false, false, false, false, false, false, false, false, false] rfl rfl (any_of HT_.out (by kernel_rfl)) (fun _ _ _ h => h) (Or.inl ⟨by rfl, ?_⟩) ?_ ?_
         rotate_left
         ·
          intro w'
          go_simp
          with_reducible rfl
         rotate_left
         ·
          simp only [Act.put, lt1_, lt2_, lt3_, i64_w, i32_w]
          rfl
         refine take_ (i := 4) (N := some 32) (v := ?_) (a' := ?_) #[true, true, true, true, true, false, false, false, false, false, false, false, false, false, false, false] rfl rfl (take_ofW HT_.out HW_.out (by kernel_rfl)) (fun _ _ _ h => h) (Or.inl ⟨by rfl, ?_⟩) hHeld ?_ ?_
         rotate_left
         ·
          rintro w' ⟨s0, s1, s2, s3, s4, s5, s6, s7⟩
          go_simp
          with_reducible rfl
         rotate_left
         ·
          simp only [Act.put, lt1_, lt2_, lt3_, i64_w, i32_w]
          rfl
         refine pure_ (i := 5) (N := some 33) (v := ?_) (a' := ?_) #[true, true, true, true, true, true, false, false, false, false, false, false, false, false, false, false] rfl rfl (any_of HT_.out (by kernel_rfl)) (fun _ _ _ h => h) (Or.inl ⟨by rfl, ?_⟩) ?_ ?_
         rotate_left
         ·
          intro w'
          go_simp
          with_reducible rfl
         rotate_left
         ·
          simp only [Act.put, lt1_, lt2_, lt3_, i64_w, i32_w]
          rfl
         refine pure_ (i := 6) (N := some 34) (v := ?_) (a' := ?_) #[true, true, true, true, true, true, true, false, false, false, false, false, false, false, false, false] rfl rfl (any_of HT_.out (by kernel_rfl)) (fun _ _ _ h => h) (Or.inl ⟨by rfl, ?_⟩) ?_ ?_
         rotate_left
         ·
          intro w'
          go_simp
          with_reducible rfl
         rotate_left
         ·
          simp only [Act.put, lt1_, lt2_, lt3_, i64_w, i32_w]
          rfl
         refine pure_ (i := 8) (N := some 36) (v := ?_) (a' := ?_) #[true, true, true, true, true, true, true, false, true, false, false, false, false, false, false, false] rfl rfl (any_of HT_.out (by kernel_rfl)) (fun _ _ _ h => h) (Or.inl ⟨by rfl, ?_⟩) ?_ ?_
         rotate_left
         ·
          intro w'
          go_simp
          with_reducible rfl
         rotate_left
         ·
          simp only [Act.put, lt1_, lt2_, lt3_, i64_w, i32_w]
          rfl
         refine pure_ (i := 11) (N := some 39) (v := ?_) (a' := ?_) #[true, true, true, true, true, true, true, false, true, false, false, true, false, false, false, false] rfl rfl (any_of HT_.out (by kernel_rfl)) (fun _ _ _ h => h) (Or.inl ⟨by rfl, ?_⟩) ?_ ?_
         rotate_left
         ·
          intro w'
          go_simp
          with_reducible rfl
         rotate_left
         ·
          simp only [Act.put, lt1_, lt2_, lt3_, i64_w, i32_w]
          rfl
         refine take_ (i := 7) (N := some 35) (v := ?_) (a' := ?_) #[true, true, true, true, true, true, true, true, true, false, false, true, false, false, false, false] rfl rfl (take_ofW HT_.out HW_.out (by kernel_rfl)) (fun _ _ _ h => h) (Or.inl ⟨by rfl, ?_⟩) hHeld ?_ ?_
         rotate_left
         ·
          rintro w' ⟨s0, s1, s2, s3, s4, s5, s6, s7⟩
          go_simp
          with_reducible rfl
         rotate_left
         ·
          simp only [Act.put, lt1_, lt2_, lt3_, i64_w, i32_w]
          rfl
         refine take_ (i := 9) (N := some 37) (v := ?_) (a' := ?_) #[true, true, true, true, true, true, true, true, true, true, false, true, false, false, false, false] rfl rfl (take_ofW HT_.out HW_.out (by kernel_rfl)) (fun _ _ _ h => h) (Or.inl ⟨by rfl, ?_⟩) hHeld ?_ ?_
         rotate_left
         ·
          rintro w' ⟨s0, s1, s2, s3, s4, s5, s6, s7⟩
          go_simp
          with_reducible rfl
         rotate_left
         ·
          simp only [Act.put, lt1_, lt2_, lt3_, i64_w, i32_w]
          rfl
         refine take_ (i := 12) (N := some 40) (v := ?_) (a' := ?_) #[true, true, true, true, true, true, true, true, true, true, false, true, true, false, false, false] rfl rfl (take_ofW HT_.out HW_.out (by kernel_rfl)) (fun _ _ _ h => h) (Or.inl ⟨by rfl, ?_⟩) hHeld ?_ ?_
         rotate_left
         ·
          rintro w' ⟨s0, s1, s2, s3, s4, s5, s6, s7⟩
          go_simp
          with_reducible rfl
         rotate_left
         ·
          simp only [Act.put, lt1_, lt2_, lt3_, i64_w, i32_w]
          rfl
         refine one_ (i := 10) (N := some 38) #[true, true, true, true, true, true, true, true, true, true, true, true, true, false, false, false] rfl rfl (one_of HT_.out (by kernel_rfl)) (by decide) (fun K hK => ?_)
         refine goes_ Try.func28 (by kernel_rfl) rfl #[.agg #[.int .i64 a0_0, .int .i64 a0_1, .slice A0_2 l0_2.length c0_2], .int .i64 a1_1] (by rfl) rfl rfl au_ ?_
         with_reducible refine (replica_Node_end.calls a0_0 a0_1 _ _ l0_2 a1_1 t189 _ ?side1 ?side2 A40.out).mono ?_
         (case side1 => repeat (first | exact (Kd.V_reads' HO_185002.out).2.2 | (with_reducible refine Kd.C_alloc ?_ _) | (with_reducible refine Kd.C_drewN ?_ _) | (with_reducible refine Kd.C_drew ?_)))
         (case side2 => exact (Kd.V_reads' HO_185002.out).2.1)
         rintro e w52 ⟨rfl, hb⟩
         refine ⟨_, rfl, ?_⟩
         have n0_ := am_ (vb_ (pV_ HO_185002.out) hb)
         have n1_ := am_ (vb_ (pV_ HO_186003.out) hb)
         have n2_ := am_ (bw_ (g := gb184) (o := .cells #[.int .i64 a0_0, .int .i64 a0_1, .slice A0_2 l0_2.length c0_2] 35 (0, 0)) (pk_ BK184.out) hb)
         have n3_ := am_ (bw_ (g := gb185) (o := .cells #[.int .i64 a1_0, .int .i64 a1_1, .int .i64 a1_2, .slice A1_3 l1_3.length c1_3, .int .i64 a1_4] 30 (0, 0)) (pk_ BK185.out) hb)
         have n4_ := am_ (bw_ (g := gb186) (o := .cells #[.int .i64 0, .int .i64 0, .slice none 0 0] 35 (0, 0)) (pk_ BK186.out) hb)
         have n5_ := am_ (sp_ (pb3_ HB.out GE184.out GE185.out GE186.out) hb)
         clear HO_185002
         clear HO_186003
         clear BK184
         clear BK185
         clear BK186
         clear HB
         have HO_185002 := n0_
         have HO_186003 := n1_
         have BK184 := n2_
         have BK185 := n3_
         have BK186 := n4_
         have HB := n5_
         clear n0_ n1_ n2_ n3_ n4_ n5_
         (try clear hb)
         (try clear hb2)
         (try clear hk)
         (try clear hi)
         refine hK.out _ _ ⟨(bc_ BK184.out 0).trans rfl, (bc_ BK184.out 1).trans rfl, (bc_ BK184.out 2).trans rfl, (bc_ BK185.out 0).trans rfl, (bc_ BK185.out 1).trans rfl, (bc_ BK185.out 2).trans rfl, (bc_ BK185.out 3).trans rfl, (bc_ BK185.out 4).trans rfl⟩ (fun hHeld => ?_)
         clear hK K
         refine norm_ (a' := ?_) ?_ ?_
         rotate_left
         ·
          show Act.put _ (some 38) _ = _
          simp only [Act.put, lt1_, lt2_, lt3_, i64_w, i32_w]
          rfl
         refine pure_ (i := 13) (N := some 41) (v := ?_) (a' := ?_) #[true, true, true, true, true, true, true, true, true, true, true, true, true, true, false, false] rfl rfl (any_of HT_.out (by kernel_rfl)) (fun _ _ _ h => h) (Or.inl ⟨by rfl, ?_⟩) ?_ ?_
         rotate_left
         ·
          intro w'
          go_simp
          with_reducible rfl
         rotate_left
         ·
          simp only [Act.put, lt1_, lt2_, lt3_, i64_w, i32_w]
          rfl
         refine pure_ (i := 14) (N := some 42) (v := ?_) (a' := ?_) #[true, true, true, true, true, true, true, true, true, true, true, true, true, true, true, false] rfl rfl (any_of HT_.out (by kernel_rfl)) (fun _ _ _ h => h) (Or.inl ⟨by rfl, ?_⟩) ?_ ?_
         rotate_left
         ·
          intro w'
          go_simp
          with_reducible rfl
         rotate_left
         ·
          simp only [Act.put, lt1_, lt2_, lt3_, i64_w, i32_w]
          rfl
         refine pure_ (i := 15) (N := some 27) (v := ?_) (a' := ?_) #[true, true, true, true, true, true, true, true, true, true, true, true, true, true, true, true] rfl rfl (any_of HT_.out (by kernel_rfl)) (fun _ _ _ h => h) (Or.inl ⟨by rfl, ?_⟩) ?_ ?_
         rotate_left
         ·
          intro w'
          go_simp
          with_reducible rfl
         rotate_left
         ·
          simp only [Act.put, lt1_, lt2_, lt3_, i64_w, i32_w]
          rfl
         refine done_ (done_of HT_.out (by kernel_rfl)) ?_
         have hcz53_0 : w52.cell? ⟨gb184, 0, none⟩ = some (.int .i64 a0_0) := (bc_ BK184.out 0).trans rfl
         have hcz53_1 : w52.cell? ⟨gb184, 1, none⟩ = some (.int .i64 a0_1) := (bc_ BK184.out 1).trans rfl
         have hcz53_2 : w52.cell? ⟨gb184, 2, none⟩ = some (.slice A0_2 l0_2.length c0_2) := (bc_ BK184.out 2).trans rfl
         have hfz53_0 := bf_ BK184.out 0
         have hfz53_1 := bf_ BK184.out 1
         have hfz53_2 := bf_ BK184.out 2
         have hcz54_0 : w52.cell? ⟨gb185, 0, none⟩ = some (.int .i64 a1_0) := (bc_ BK185.out 0).trans rfl
         have hcz54_1 : w52.cell? ⟨gb185, 1, none⟩ = some (.int .i64 a1_1) := (bc_ BK185.out 1).trans rfl
         have hcz54_2 : w52.cell? ⟨gb185, 2, none⟩ = some (.int .i64 a1_2) := (bc_ BK185.out 2).trans rfl
         have hcz54_3 : w52.cell? ⟨gb185, 3, none⟩ = some (.slice A1_3 l1_3.length c1_3) := (bc_ BK185.out 3).trans rfl
         have hcz54_4 : w52.cell? ⟨gb185, 4, none⟩ = some (.int .i64 a1_4) := (bc_ BK185.out 4).trans rfl
         have hfz54_0 := bf_ BK185.out 0
         have hfz54_1 := bf_ BK185.out 1
         have hfz54_2 := bf_ BK185.out 2
         have hfz54_3 := bf_ BK185.out 3
         have hfz54_4 := bf_ BK185.out 4
         try go_wp2_with (first | ((with_reducible refine gate_callee (f := 37) rfl ?_); refine goesL_ (some 46) rfl rfl Try.func37 (by kernel_rfl) rfl #[.agg #[.int .i64 a0_0, .int .i64 a0_1, .slice A0_2 l0_2.length c0_2], .agg #[.int .i64 a1_0, .int .i64 a1_1, .int .i64 a1_2, .slice A1_3 l1_3.length c1_3, .int .i64 a1_4]] rfl au_ ?_; (with_reducible refine (replica_agreed.calls kj2 a0_0 a0_1 _ _ l0_2 a1_0 a1_1 a1_2 _ _ l1_3 a1_4 t190 _ ?side1 ?side2 ?side3 ?side4 A42.out).mono ?_); (case side1 => repeat (first | exact (Kd.V_reads' HO_185002.out).2.2 | (with_reducible refine Kd.C_alloc ?_ _) | (with_reducible refine Kd.C_drewN ?_ _) | (with_reducible refine Kd.C_drew ?_))); (case side2 => exact (Kd.V_reads' HO_185002.out).2.1); (case side3 => repeat (first | exact (Kd.V_reads' HO_186003.out).2.2 | (with_reducible refine Kd.C_alloc ?_ _) | (with_reducible refine Kd.C_drewN ?_ _) | (with_reducible refine Kd.C_drew ?_))); (case side4 => exact (Kd.V_reads' HO_186003.out).2.1); rintro e w55 ⟨rfl, hb⟩; refine ⟨_, rfl, ?_⟩; have n0_ := am_ (vb_ (pV_ HO_185002.out) hb); have n1_ := am_ (vb_ (pV_ HO_186003.out) hb); have n2_ := am_ (bw_ (g := gb184) (o := .cells #[.int .i64 a0_0, .int .i64 a0_1, .slice A0_2 l0_2.length c0_2] 35 (0, 0)) (pk_ BK184.out) hb); have n3_ := am_ (bw_ (g := gb185) (o := .cells #[.int .i64 a1_0, .int .i64 a1_1, .int .i64 a1_2, .slice A1_3 l1_3.length c1_3, .int .i64 a1_4] 30 (0, 0)) (pk_ BK185.out) hb); have n4_ := am_ (bw_ (g := gb186) (o := .cells #[.int .i64 0, .int .i64 0, .slice none 0 0] 35 (0, 0)) (pk_ BK186.out) hb); have n5_ := am_ (sp_ (pb3_ HB.out GE184.out GE185.out GE186.out) hb); clear HO_185002; clear HO_186003; clear BK184; clear BK185; clear BK186; clear HB; have HO_185002 := n0_; have HO_186003 := n1_; have BK184 := n2_; have BK185 := n3_; have BK186 := n4_; have HB := n5_; clear n0_ n1_ n2_ n3_ n4_ n5_; (try clear hb); (try clear hb2); (try clear hk); (try clear hi); have hcz56_0 : w55.cell? ⟨gb185, 0, none⟩ = some (.int .i64 a1_0) := (bc_ BK185.out 0).trans rfl; have hcz56_1 : w55.cell? ⟨gb185, 1, none⟩ = some (.int .i64 a1_1) := (bc_ BK185.out 1).trans rfl; have hcz56_2 : w55.cell? ⟨gb185, 2, none⟩ = some (.int .i64 a1_2) := (bc_ BK185.out 2).trans rfl; have hcz56_3 : w55.cell? ⟨gb185, 3, none⟩ = some (.slice A1_3 l1_3.length c1_3) := (bc_ BK185.out 3).trans rfl; have hcz56_4 : w55.cell? ⟨gb185, 4, none⟩ = some (.int .i64 a1_4) := (bc_ BK185.out 4).trans rfl; have hfz56_0 := bf_ BK185.out 0; have hfz56_1 := bf_ BK185.out 1; have hfz56_2 := bf_ BK185.out 2; have hfz56_3 := bf_ BK185.out 3; have hfz56_4 := bf_ BK185.out 4))
         have n0_ := am_ (vd_ HO_185002.out)
         have n1_ := am_ (vd_ HO_186003.out)
         have n2_ := am_ (bd_ BK184.out)
         have n3_ := am_ (bd_ BK185.out)
         have n4_ := am_ (bd_ BK186.out)
         have n5_ := am_ (b1_ HB.out)
         clear HO_185002
         clear HO_186003
         clear BK184
         clear BK185
         clear BK186
         clear HB
         have HO_185002 := n0_
         have HO_186003 := n1_
         have BK184 := n2_
         have BK185 := n3_
         have BK186 := n4_
         have HB := n5_
         clear n0_ n1_ n2_ n3_ n4_ n5_
         refine start_ (n := 10) (S := fun w' => w'.cell? ⟨gb185, 0, none⟩ = some (.int .i64 a1_0) ∧ w'.cell? ⟨gb185, 1, none⟩ = some (.int .i64 a1_1) ∧ w'.cell? ⟨gb185, 2, none⟩ = some (.int .i64 a1_2) ∧ w'.cell? ⟨gb185, 3, none⟩ = some (.slice A1_3 l1_3.length c1_3) ∧ w'.cell? ⟨gb185, 4, none⟩ = some (.int .i64 a1_4) ∧ w'.cell? ⟨gb184, 0, none⟩ = some (.int .i64 a0_0) ∧ w'.cell? ⟨gb184, 1, none⟩ = some (.int .i64 a0_1) ∧ w'.cell? ⟨gb184, 2, none⟩ = some (.slice A0_2 l0_2.length c0_2)) (ds := []) #[false, false, false, false, false, false, false, false, false, false] (by kernel_rfl) rfl rfl ⟨(bc_ BK185.out 0).trans rfl, (bc_ BK185.out 1).trans rfl, (bc_ BK185.out 2).trans rfl, (bc_ BK185.out 3).trans rfl, (bc_ BK185.out 4).trans rfl, (bc_ BK184.out 0).trans rfl, (bc_ BK184.out 1).trans rfl, (bc_ BK184.out 2).trans rfl⟩ (fun hHeld => ?_); refine with_tabW replica_Accept.tab9 replica_Accept.bits9 (fun HT_ HW_ => ?_)
         generalize w55.drew = w57 at HO_185002 HO_186003 BK184 BK185 BK186 HB hHeld ⊢
         refine pure_ (i := 0) (N := some 53) (v := ?_) (a' := ?_) #[true, false, false, false, false, false, false, false, false, false] rfl rfl (any_of HT_.out (by kernel_rfl)) (fun _ _ _ h => h) (Or.inl ⟨by rfl, ?_⟩) ?_ ?_
         rotate_left
         ·
          intro w'
          go_simp
          with_reducible rfl
         rotate_left
         ·
          simp only [Act.put, lt1_, lt2_, lt3_, i64_w, i32_w]
          rfl
         refine pure_ (i := 2) (N := some 55) (v := ?_) (a' := ?_) #[true, false, true, false, false, false, false, false, false, false] rfl rfl (any_of HT_.out (by kernel_rfl)) (fun _ _ _ h => h) (Or.inl ⟨by rfl, ?_⟩) ?_ ?_
         rotate_left
         ·
          intro w'
          go_simp
          with_reducible rfl
         rotate_left
         ·
          simp only [Act.put, lt1_, lt2_, lt3_, i64_w, i32_w]
          rfl
         refine pure_ (i := 4) (N := some 57) (v := ?_) (a' := ?_) #[true, false, true, false, true, false, false, false, false, false] rfl rfl (any_of HT_.out (by kernel_rfl)) (fun _ _ _ h => h) (Or.inl ⟨by rfl, ?_⟩) ?_ ?_
         rotate_left
         ·
          intro w'
          go_simp
          with_reducible rfl
         rotate_left
         ·
          simp only [Act.put, lt1_, lt2_, lt3_, i64_w, i32_w]
          rfl
         refine take_ (i := 1) (N := some 54) (v := ?_) (a' := ?_) #[true, true, true, false, true, false, false, false, false, false] rfl rfl (take_ofW HT_.out HW_.out (by kernel_rfl)) (fun _ _ _ h => h) (Or.inl ⟨by rfl, ?_⟩) hHeld ?_ ?_
         rotate_left
         ·
          rintro w' ⟨s0, s1, s2, s3, s4, s5, s6, s7⟩
          go_simp
          with_reducible rfl
         rotate_left
         ·
          simp only [Act.put, lt1_, lt2_, lt3_, i64_w, i32_w]
          rfl
         refine take_ (i := 3) (N := some 56) (v := ?_) (a' := ?_) #[true, true, true, true, true, false, false, false, false, false] rfl rfl (take_ofW HT_.out HW_.out (by kernel_rfl)) (fun _ _ _ h => h) (Or.inl ⟨by rfl, ?_⟩) hHeld ?_ ?_
         rotate_left
         ·
          rintro w' ⟨s0, s1, s2, s3, s4, s5, s6, s7⟩
          go_simp
          with_reducible rfl
         rotate_left
         ·
          simp only [Act.put, lt1_, lt2_, lt3_, i64_w, i32_w]
          rfl
         refine take_ (i := 5) (N := some 58) (v := ?_) (a' := ?_) #[true, true, true, true, true, true, false, false, false, false] rfl rfl (take_ofW HT_.out HW_.out (by kernel_rfl)) (fun _ _ _ h => h) (Or.inl ⟨by rfl, ?_⟩) hHeld ?_ ?_
         rotate_left
         ·
          rintro w' ⟨s0, s1, s2, s3, s4, s5, s6, s7⟩
          go_simp
          with_reducible rfl
         rotate_left
         ·
          simp only [Act.put, lt1_, lt2_, lt3_, i64_w, i32_w]
          rfl
         refine join_ (σ := Value × Nat) 1 #[true, true, true, true, true, true, true, true, true, false] (fun s_ => [(59, s_.1), (9, .pointer (some ⟨s_.2, 0, none⟩)), (60, .agg #[.int .i64 a1_0, .int .i64 a0_1, s_.1])]) (fun s_ w' => (w'.cell? ⟨gb185, 0, none⟩ = some (.int .i64 a1_0) ∧ w'.cell? ⟨gb185, 1, none⟩ = some (.int .i64 a1_1) ∧ w'.cell? ⟨gb185, 2, none⟩ = some (.int .i64 a1_2) ∧ w'.cell? ⟨gb185, 3, none⟩ = some (.slice A1_3 l1_3.length c1_3) ∧ w'.cell? ⟨gb185, 4, none⟩ = some (.int .i64 a1_4) ∧ w'.cell? ⟨gb184, 0, none⟩ = some (.int .i64 a0_0) ∧ w'.cell? ⟨gb184, 1, none⟩ = some (.int .i64 a0_1) ∧ w'.cell? ⟨gb184, 2, none⟩ = some (.slice A0_2 l0_2.length c0_2)) ∧ (Kd.N k87 87 w' w.heap.size (fun k_ => ((P0_2_ k_ ∨ P1_3_ k_) ∨ w.heap.size ≤ k_) ∧ k_ ≠ gb184 ∧ k_ ≠ gb185 ∧ k_ ≠ gb186 ∧ k_ ≠ s_.2) s_.1 t191) ∧ (Kd.V k87 87 w' w.heap.size (fun k_ => ((P0_2_ k_ ∨ P1_3_ k_) ∨ w.heap.size ≤ k_) ∧ some k_ ≠ (s_.1 : Value).ownBlock ∧ k_ ≠ gb184 ∧ k_ ≠ gb185 ∧ k_ ≠ gb186 ∧ k_ ≠ s_.2) (.slice A0_2 l0_2.length c0_2) l0_2) ∧ (Kd.V k87 87 w' w.heap.size (fun k_ => ((P0_2_ k_ ∨ P1_3_ k_) ∨ w.heap.size ≤ k_) ∧ some k_ ≠ (s_.1 : Value).ownBlock ∧ k_ ≠ gb184 ∧ k_ ≠ gb185 ∧ k_ ≠ gb186 ∧ k_ ≠ s_.2) (.slice A1_3 l1_3.length c1_3) l1_3) ∧ (w'.heap[gb184]? = some (.cells #[.int .i64 a0_0, .int .i64 a0_1, .slice A0_2 l0_2.length c0_2] 35 (0, 0))) ∧ (w'.heap[gb185]? = some (.cells #[.int .i64 a1_0, .int .i64 a1_1, .int .i64 a1_2, .slice A1_3 l1_3.length c1_3, .int .i64 a1_4] 30 (0, 0))) ∧ (w'.heap[gb186]? = some (.cells #[.int .i64 0, .int .i64 0, .slice none 0 0] 35 (0, 0))) ∧ (w'.heap[s_.2]? = some (.cells #[.int .i64 0, .int .i64 0, .slice none 0 0] 35 (0, 0))) ∧ (w.heap.size ≤ s_.2) ∧ (w.heap.size ≤ s_.2) ∧ (gb184 ≠ s_.2) ∧ (s_.2 ≠ gb184) ∧ (gb185 ≠ s_.2) ∧ (s_.2 ≠ gb185) ∧ (gb186 ≠ s_.2) ∧ (s_.2 ≠ gb186) ∧ (Below w.heap.size w w')) ?_ ?_
         rotate_left
         ·
          intro hCont
          refine two_ (i := 6) (j := 8) (Ni := some 59) (Nj := some 9) #[true, true, true, true, true, true, true, false, false, false] #[true, true, true, true, true, true, false, false, true, false] rfl rfl rfl rfl (two_of HT_.out (by kernel_rfl)) (by decide) (by decide) (fun K hK => ?_) (fun K hK => ?_)
          ·
           skip
           refine goes_ Try.func29 (by kernel_rfl) rfl #[.slice A0_2 l0_2.length c0_2] (by rfl) rfl rfl au_ ?_
           with_reducible refine (replica_copied.calls kj2 (fun k_ => (((P0_2_ k_ ∨ P1_3_ k_) ∨ w.heap.size ≤ k_) ∧ (k_ ≠ gb184 ∧ (k_ ≠ gb185 ∧ k_ ≠ gb186)))) _ _ l0_2 t191 _ ?side1 A43.out).mono ?_
           (case side1 => exact HO_185002.out)
           rintro e w58 ⟨v192, rfl, ho0, hb⟩
           refine ⟨_, rfl, ?_⟩
           have n0_ := am_ (Kd.V_elder' (pV_ HO_185002.out) (Kd.N_base ho0) hb)
           have n1_ := am_ (Kd.V_elder' (pV_ HO_186003.out) (Kd.N_base ho0) hb)
           have n2_ := am_ (nl_ (nm_ (ok' := fun k_ => ((P0_2_ k_ ∨ P1_3_ k_) ∨ w.heap.size ≤ k_) ∧ k_ ≠ gb184 ∧ k_ ≠ gb185 ∧ k_ ≠ gb186) ho0 (fun k_ hk_ => ⟨Or.elim hk_ (fun hs_ => hs_.1) (fun hn_ => (.inr (Nat.le_trans (bz_ (pb3_ HB.out GE184.out GE185.out GE186.out)) hn_))), Or.elim hk_ (fun hs_ => hs_.2.1) (fun hn_ => (fb_ (g := gb184) (o := .cells #[.int .i64 a0_0, .int .i64 a0_1, .slice A0_2 l0_2.length c0_2] 35 (0, 0)) (pk_ BK184.out) k_ hn_)), Or.elim hk_ (fun hs_ => hs_.2.2.1) (fun hn_ => (fb_ (g := gb185) (o := .cells #[.int .i64 a1_0, .int .i64 a1_1, .int .i64 a1_2, .slice A1_3 l1_3.length c1_3, .int .i64 a1_4] 30 (0, 0)) (pk_ BK185.out) k_ hn_)), Or.elim hk_ (fun hs_ => hs_.2.2.2) (fun hn_ => (fb_ (g := gb186) (o := .cells #[.int .i64 0, .int .i64 0, .slice none 0 0] 35 (0, 0)) (pk_ BK186.out) k_ hn_))⟩)) (bz_ (pb3_ HB.out GE184.out GE185.out GE186.out)))
           have n3_ := am_ (bw_ (g := gb184) (o := .cells #[.int .i64 a0_0, .int .i64 a0_1, .slice A0_2 l0_2.length c0_2] 35 (0, 0)) (pk_ BK184.out) hb)
           have n4_ := am_ (bw_ (g := gb185) (o := .cells #[.int .i64 a1_0, .int .i64 a1_1, .int .i64 a1_2, .slice A1_3 l1_3.length c1_3, .int .i64 a1_4] 30 (0, 0)) (pk_ BK185.out) hb)
           have n5_ := am_ (bw_ (g := gb186) (o := .cells #[.int .i64 0, .int .i64 0, .slice none 0 0] 35 (0, 0)) (pk_ BK186.out) hb)
           have n6_ := am_ (sp_ (pb3_ HB.out GE184.out GE185.out GE186.out) hb)
           clear HO_185002
           clear HO_186003
           clear BK184
           clear BK185
           clear BK186
           clear HB
           have HO_185002 := n0_
           have HO_186003 := n1_
           have HO193 := n2_
           have BK184 := n3_
           have BK185 := n4_
           have BK186 := n5_
           have HB := n6_
           clear n0_ n1_ n2_ n3_ n4_ n5_ n6_
           (try clear hb)
           (try clear hb2)
           (try clear hk)
           (try clear hi)
           (try clear ho0)
           obtain ⟨Ao59, co59, eo59⟩ := Kd.N_slice HO193.out
           (first | subst eo59 | (injection eo59 with f1_ f2_ f3_; have f4_ := f1_.symm; have f5_ := f3_.symm; clear f1_ f2_ f3_; subst f4_; subst f5_))
           refine hK.out _ _ ⟨(bc_ BK185.out 0).trans rfl, (bc_ BK185.out 1).trans rfl, (bc_ BK185.out 2).trans rfl, (bc_ BK185.out 3).trans rfl, (bc_ BK185.out 4).trans rfl, (bc_ BK184.out 0).trans rfl, (bc_ BK184.out 1).trans rfl, (bc_ BK184.out 2).trans rfl⟩ (fun hHeld => ?_)
           clear hK K
           refine norm_ (a' := ?_) ?_ ?_
           rotate_left
           ·
            show Act.put _ (some 59) _ = _
            simp only [Act.put, lt1_, lt2_, lt3_, i64_w, i32_w]
            rfl
           refine pure_ (i := 7) (N := some 60) (v := ?_) (a' := ?_) #[true, true, true, true, true, true, true, true, false, false] rfl rfl (any_of HT_.out (by kernel_rfl)) (fun _ _ _ h => h) (Or.inl ⟨by rfl, ?_⟩) ?_ ?_
           rotate_left
           ·
            intro w'
            go_simp
            with_reducible rfl
           rotate_left
           ·
            simp only [Act.put, lt1_, lt2_, lt3_, i64_w, i32_w]
            rfl
           refine one_ (i := 8) (N := some 9) #[true, true, true, true, true, true, true, true, true, false] rfl rfl (one_of HT_.out (by kernel_rfl)) (by decide) (fun K hK => ?_)
           refine box_step ?hg (N := 9) ?hd (cs := #[.int .i64 0, .int .i64 0, .slice none 0 0]) (t := 35) ?hr ?_; (case hd => rfl); (case hg => rfl); (case hr => first | (go_simp; done) | (go_simp; rfl))
           intro gb194 hg w60 hbox hb
           have n0_ := am_ (vb_ (Kd.V_elderB (pV_ HO_185002.out) gb194 (le_ hg.symm)) hb)
           have n1_ := am_ (vb_ (Kd.V_elderB (pV_ HO_186003.out) gb194 (le_ hg.symm)) hb)
           have n2_ := am_ (nb_ (Kd.N_elderB (pN_ HO193.out) gb194 (le_ hg.symm)) hb)
           have n3_ := am_ (bw_ (g := gb184) (o := .cells #[.int .i64 a0_0, .int .i64 a0_1, .slice A0_2 l0_2.length c0_2] 35 (0, 0)) (pk_ BK184.out) hb)
           have n4_ := am_ (bw_ (g := gb185) (o := .cells #[.int .i64 a1_0, .int .i64 a1_1, .int .i64 a1_2, .slice A1_3 l1_3.length c1_3, .int .i64 a1_4] 30 (0, 0)) (pk_ BK185.out) hb)
           have n5_ := am_ (bw_ (g := gb186) (o := .cells #[.int .i64 0, .int .i64 0, .slice none 0 0] 35 (0, 0)) (pk_ BK186.out) hb)
           have n6_ := am_ (sp_ (pb3_ HB.out GE184.out GE185.out GE186.out) hb)
           have n7_ := am_ (hbox)
           have n8_ := am_ ((by rw [hg]; exact (bz_ (pb3_ HB.out GE184.out GE185.out GE186.out)) : w.heap.size ≤ gb194))
           have n9_ := am_ ((by rw [hg]; exact (bz_ (pb3_ HB.out GE184.out GE185.out GE186.out)) : w.heap.size ≤ gb194))
           have n10_ := am_ ((by rw [hg]; exact Nat.ne_of_lt (blk_lt (g := gb184) (o := .cells #[.int .i64 a0_0, .int .i64 a0_1, .slice A0_2 l0_2.length c0_2] 35 (0, 0)) (pk_ BK184.out)) : gb184 ≠ gb194))
           have n11_ := am_ ((by rw [hg]; exact Nat.ne_of_gt (blk_lt (g := gb184) (o := .cells #[.int .i64 a0_0, .int .i64 a0_1, .slice A0_2 l0_2.length c0_2] 35 (0, 0)) (pk_ BK184.out)) : gb194 ≠ gb184))
           have n12_ := am_ ((by rw [hg]; exact Nat.ne_of_lt (blk_lt (g := gb185) (o := .cells #[.int .i64 a1_0, .int .i64 a1_1, .int .i64 a1_2, .slice A1_3 l1_3.length c1_3, .int .i64 a1_4] 30 (0, 0)) (pk_ BK185.out)) : gb185 ≠ gb194))
           have n13_ := am_ ((by rw [hg]; exact Nat.ne_of_gt (blk_lt (g := gb185) (o := .cells #[.int .i64 a1_0, .int .i64 a1_1, .int .i64 a1_2, .slice A1_3 l1_3.length c1_3, .int .i64 a1_4] 30 (0, 0)) (pk_ BK185.out)) : gb194 ≠ gb185))
           have n14_ := am_ ((by rw [hg]; exact Nat.ne_of_lt (blk_lt (g := gb186) (o := .cells #[.int .i64 0, .int .i64 0, .slice none 0 0] 35 (0, 0)) (pk_ BK186.out)) : gb186 ≠ gb194))
           have n15_ := am_ ((by rw [hg]; exact Nat.ne_of_gt (blk_lt (g := gb186) (o := .cells #[.int .i64 0, .int .i64 0, .slice none 0 0] 35 (0, 0)) (pk_ BK186.out)) : gb194 ≠ gb186))
           clear HO_185002
           clear HO_186003
           clear HO193
           clear BK184
           clear BK185
           clear BK186
           clear HB
           have HO_185002 := n0_
           have HO_186003 := n1_
           have HO193 := n2_
           have BK184 := n3_
           have BK185 := n4_
           have BK186 := n5_
           have HB := n6_
           have BK194 := n7_
           have GW194 := n8_
           have GE194 := n9_
           have NB184_194 := n10_
           have NB194_184 := n11_
           have NB185_194 := n12_
           have NB194_185 := n13_
           have NB186_194 := n14_
           have NB194_186 := n15_
           clear n0_ n1_ n2_ n3_ n4_ n5_ n6_ n7_ n8_ n9_ n10_ n11_ n12_ n13_ n14_ n15_
           clear hb hbox hg
           refine hK.out _ _ ⟨(bc_ BK185.out 0).trans rfl, (bc_ BK185.out 1).trans rfl, (bc_ BK185.out 2).trans rfl, (bc_ BK185.out 3).trans rfl, (bc_ BK185.out 4).trans rfl, (bc_ BK184.out 0).trans rfl, (bc_ BK184.out 1).trans rfl, (bc_ BK184.out 2).trans rfl⟩ (fun hHeld => ?_)
           clear hK K
           refine norm_ (a' := ?_) ?_ ?_
           rotate_left
           ·
            show Act.put _ (some 9) _ = _
            simp only [Act.put, lt1_, lt2_, lt3_, i64_w, i32_w]
            rfl
           exact norm_ (by simp only [putAll, Act.put, lt1_, lt2_, lt3_]) (hCont (.slice Ao59 t191.length co59, gb194) _ ⟨hHeld, (by (with_reducible repeat (first | apply na_ | apply nn_ | apply nd_)); exact nm_ HO193.out (fun _ hk => ⟨hk.1.1, ⟨hk.1.2.1, ⟨hk.1.2.2.1, ⟨hk.1.2.2.2, hk.2⟩⟩⟩⟩)), (by (with_reducible repeat (first | apply va_ | apply vn_ | apply vd_)); exact vm_ HO_185002.out (fun _ hk => ⟨hk.1.1.1, ⟨hk.1.2, ⟨hk.1.1.2.1, ⟨hk.1.1.2.2.1, ⟨hk.1.1.2.2.2, hk.2⟩⟩⟩⟩⟩)), (by (with_reducible repeat (first | apply va_ | apply vn_ | apply vd_)); exact vm_ HO_186003.out (fun _ hk => ⟨hk.1.1.1, ⟨hk.1.2, ⟨hk.1.1.2.1, ⟨hk.1.1.2.2.1, ⟨hk.1.1.2.2.2, hk.2⟩⟩⟩⟩⟩)), (pk_ BK184.out), (pk_ BK185.out), (pk_ BK186.out), (pk_ BK194.out), GW194.out, GE194.out, NB184_194.out, NB194_184.out, NB185_194.out, NB194_185.out, NB186_194.out, NB194_186.out, (pb4_ HB.out GE184.out GE185.out GE186.out GE194.out)⟩)
          ·
           skip
           refine box_step ?hg (N := 9) ?hd (cs := #[.int .i64 0, .int .i64 0, .slice none 0 0]) (t := 35) ?hr ?_; (case hd => rfl); (case hg => rfl); (case hr => first | (go_simp; done) | (go_simp; rfl))
           intro gb194 hg w58 hbox hb
           have n0_ := am_ (vb_ (Kd.V_elderB (pV_ HO_185002.out) gb194 (le_ hg.symm)) hb)
           have n1_ := am_ (vb_ (Kd.V_elderB (pV_ HO_186003.out) gb194 (le_ hg.symm)) hb)
           have n2_ := am_ (bw_ (g := gb184) (o := .cells #[.int .i64 a0_0, .int .i64 a0_1, .slice A0_2 l0_2.length c0_2] 35 (0, 0)) (pk_ BK184.out) hb)
           have n3_ := am_ (bw_ (g := gb185) (o := .cells #[.int .i64 a1_0, .int .i64 a1_1, .int .i64 a1_2, .slice A1_3 l1_3.length c1_3, .int .i64 a1_4] 30 (0, 0)) (pk_ BK185.out) hb)
           have n4_ := am_ (bw_ (g := gb186) (o := .cells #[.int .i64 0, .int .i64 0, .slice none 0 0] 35 (0, 0)) (pk_ BK186.out) hb)
           have n5_ := am_ (sp_ (pb3_ HB.out GE184.out GE185.out GE186.out) hb)
           have n6_ := am_ (hbox)
           have n7_ := am_ ((by rw [hg]; exact (bz_ (pb3_ HB.out GE184.out GE185.out GE186.out)) : w.heap.size ≤ gb194))
           have n8_ := am_ ((by rw [hg]; exact (bz_ (pb3_ HB.out GE184.out GE185.out GE186.out)) : w.heap.size ≤ gb194))
           have n9_ := am_ ((by rw [hg]; exact Nat.ne_of_lt (blk_lt (g := gb184) (o := .cells #[.int .i64 a0_0, .int .i64 a0_1, .slice A0_2 l0_2.length c0_2] 35 (0, 0)) (pk_ BK184.out)) : gb184 ≠ gb194))
           have n10_ := am_ ((by rw [hg]; exact Nat.ne_of_gt (blk_lt (g := gb184) (o := .cells #[.int .i64 a0_0, .int .i64 a0_1, .slice A0_2 l0_2.length c0_2] 35 (0, 0)) (pk_ BK184.out)) : gb194 ≠ gb184))
           have n11_ := am_ ((by rw [hg]; exact Nat.ne_of_lt (blk_lt (g := gb185) (o := .cells #[.int .i64 a1_0, .int .i64 a1_1, .int .i64 a1_2, .slice A1_3 l1_3.length c1_3, .int .i64 a1_4] 30 (0, 0)) (pk_ BK185.out)) : gb185 ≠ gb194))
           have n12_ := am_ ((by rw [hg]; exact Nat.ne_of_gt (blk_lt (g := gb185) (o := .cells #[.int .i64 a1_0, .int .i64 a1_1, .int .i64 a1_2, .slice A1_3 l1_3.length c1_3, .int .i64 a1_4] 30 (0, 0)) (pk_ BK185.out)) : gb194 ≠ gb185))
           have n13_ := am_ ((by rw [hg]; exact Nat.ne_of_lt (blk_lt (g := gb186) (o := .cells #[.int .i64 0, .int .i64 0, .slice none 0 0] 35 (0, 0)) (pk_ BK186.out)) : gb186 ≠ gb194))
           have n14_ := am_ ((by rw [hg]; exact Nat.ne_of_gt (blk_lt (g := gb186) (o := .cells #[.int .i64 0, .int .i64 0, .slice none 0 0] 35 (0, 0)) (pk_ BK186.out)) : gb194 ≠ gb186))
           clear HO_185002
           clear HO_186003
           clear BK184
           clear BK185
           clear BK186
           clear HB
           have HO_185002 := n0_
           have HO_186003 := n1_
           have BK184 := n2_
           have BK185 := n3_
           have BK186 := n4_
           have HB := n5_
           have BK194 := n6_
           have GW194 := n7_
           have GE194 := n8_
           have NB184_194 := n9_
           have NB194_184 := n10_
           have NB185_194 := n11_
           have NB194_185 := n12_
           have NB186_194 := n13_
           have NB194_186 := n14_
           clear n0_ n1_ n2_ n3_ n4_ n5_ n6_ n7_ n8_ n9_ n10_ n11_ n12_ n13_ n14_
           clear hb hbox hg
           refine hK.out _ _ ⟨(bc_ BK185.out 0).trans rfl, (bc_ BK185.out 1).trans rfl, (bc_ BK185.out 2).trans rfl, (bc_ BK185.out 3).trans rfl, (bc_ BK185.out 4).trans rfl, (bc_ BK184.out 0).trans rfl, (bc_ BK184.out 1).trans rfl, (bc_ BK184.out 2).trans rfl⟩ (fun hHeld => ?_)
           clear hK K
           refine norm_ (a' := ?_) ?_ ?_
           rotate_left
           ·
            show Act.put _ (some 9) _ = _
            simp only [Act.put, lt1_, lt2_, lt3_, i64_w, i32_w]
            rfl
           refine one_ (i := 6) (N := some 59) #[true, true, true, true, true, true, true, false, true, false] rfl rfl (one_of HT_.out (by kernel_rfl)) (by decide) (fun K hK => ?_)
           refine goes_ Try.func29 (by kernel_rfl) rfl #[.slice A0_2 l0_2.length c0_2] (by rfl) rfl rfl au_ ?_
           with_reducible refine (replica_copied.calls kj2 (fun k_ => ((((P0_2_ k_ ∨ P1_3_ k_) ∨ w.heap.size ≤ k_) ∧ (k_ ≠ gb184 ∧ (k_ ≠ gb185 ∧ k_ ≠ gb186))) ∧ k_ ≠ gb194)) _ _ l0_2 t191 _ ?side1 A43.out).mono ?_
           (case side1 => exact HO_185002.out)
           rintro e w59 ⟨v192, rfl, ho0, hb⟩
           refine ⟨_, rfl, ?_⟩
           have n0_ := am_ (Kd.V_elder' (pV_ HO_185002.out) (Kd.N_base ho0) hb)
           have n1_ := am_ (Kd.V_elder' (pV_ HO_186003.out) (Kd.N_base ho0) hb)
           have n2_ := am_ (nl_ (nm_ (ok' := fun k_ => ((P0_2_ k_ ∨ P1_3_ k_) ∨ w.heap.size ≤ k_) ∧ k_ ≠ gb184 ∧ k_ ≠ gb185 ∧ k_ ≠ gb186 ∧ k_ ≠ gb194) ho0 (fun k_ hk_ => ⟨Or.elim hk_ (fun hs_ => hs_.1.1) (fun hn_ => (.inr (Nat.le_trans (bz_ (pb4_ HB.out GE184.out GE185.out GE186.out GE194.out)) hn_))), Or.elim hk_ (fun hs_ => hs_.1.2.1) (fun hn_ => (fb_ (g := gb184) (o := .cells #[.int .i64 a0_0, .int .i64 a0_1, .slice A0_2 l0_2.length c0_2] 35 (0, 0)) (pk_ BK184.out) k_ hn_)), Or.elim hk_ (fun hs_ => hs_.1.2.2.1) (fun hn_ => (fb_ (g := gb185) (o := .cells #[.int .i64 a1_0, .int .i64 a1_1, .int .i64 a1_2, .slice A1_3 l1_3.length c1_3, .int .i64 a1_4] 30 (0, 0)) (pk_ BK185.out) k_ hn_)), Or.elim hk_ (fun hs_ => hs_.1.2.2.2) (fun hn_ => (fb_ (g := gb186) (o := .cells #[.int .i64 0, .int .i64 0, .slice none 0 0] 35 (0, 0)) (pk_ BK186.out) k_ hn_)), Or.elim hk_ (fun hs_ => hs_.2) (fun hn_ => (fb_ (g := gb194) (o := .cells #[.int .i64 0, .int .i64 0, .slice none 0 0] 35 (0, 0)) (pk_ BK194.out) k_ hn_))⟩)) (bz_ (pb4_ HB.out GE184.out GE185.out GE186.out GE194.out)))
           have n3_ := am_ (bw_ (g := gb184) (o := .cells #[.int .i64 a0_0, .int .i64 a0_1, .slice A0_2 l0_2.length c0_2] 35 (0, 0)) (pk_ BK184.out) hb)
           have n4_ := am_ (bw_ (g := gb185) (o := .cells #[.int .i64 a1_0, .int .i64 a1_1, .int .i64 a1_2, .slice A1_3 l1_3.length c1_3, .int .i64 a1_4] 30 (0, 0)) (pk_ BK185.out) hb)
           have n5_ := am_ (bw_ (g := gb186) (o := .cells #[.int .i64 0, .int .i64 0, .slice none 0 0] 35 (0, 0)) (pk_ BK186.out) hb)
           have n6_ := am_ (bw_ (g := gb194) (o := .cells #[.int .i64 0, .int .i64 0, .slice none 0 0] 35 (0, 0)) (pk_ BK194.out) hb)
           have n7_ := am_ (sp_ (pb4_ HB.out GE184.out GE185.out GE186.out GE194.out) hb)
           clear HO_185002
           clear HO_186003
           clear BK184
           clear BK185
           clear BK186
           clear BK194
           clear HB
           have HO_185002 := n0_
           have HO_186003 := n1_
           have HO193 := n2_
           have BK184 := n3_
           have BK185 := n4_
           have BK186 := n5_
           have BK194 := n6_
           have HB := n7_
           clear n0_ n1_ n2_ n3_ n4_ n5_ n6_ n7_
           (try clear hb)
           (try clear hb2)
           (try clear hk)
           (try clear hi)
           (try clear ho0)
           obtain ⟨Ao60, co60, eo60⟩ := Kd.N_slice HO193.out
           (first | subst eo60 | (injection eo60 with f1_ f2_ f3_; have f4_ := f1_.symm; have f5_ := f3_.symm; clear f1_ f2_ f3_; subst f4_; subst f5_))
           refine hK.out _ _ ⟨(bc_ BK185.out 0).trans rfl, (bc_ BK185.out 1).trans rfl, (bc_ BK185.out 2).trans rfl, (bc_ BK185.out 3).trans rfl, (bc_ BK185.out 4).trans rfl, (bc_ BK184.out 0).trans rfl, (bc_ BK184.out 1).trans rfl, (bc_ BK184.out 2).trans rfl⟩ (fun hHeld => ?_)
           clear hK K
           refine norm_ (a' := ?_) ?_ ?_
           rotate_left
           ·
            show Act.put _ (some 59) _ = _
            simp only [Act.put, lt1_, lt2_, lt3_, i64_w, i32_w]
            rfl
           refine pure_ (i := 7) (N := some 60) (v := ?_) (a' := ?_) #[true, true, true, true, true, true, true, true, true, false] rfl rfl (any_of HT_.out (by kernel_rfl)) (fun _ _ _ h => h) (Or.inl ⟨by rfl, ?_⟩) ?_ ?_
           rotate_left
           ·
            intro w'
            go_simp
            with_reducible rfl
           rotate_left
           ·
            simp only [Act.put, lt1_, lt2_, lt3_, i64_w, i32_w]
            rfl
           exact norm_ (by simp only [putAll, Act.put, lt1_, lt2_, lt3_]) (hCont (.slice Ao60 t191.length co60, gb194) _ ⟨hHeld, (pN_ HO193.out), (by (with_reducible repeat (first | apply va_ | apply vn_ | apply vd_)); exact vm_ HO_185002.out (fun _ hk => ⟨hk.1.1.1, ⟨hk.2, ⟨hk.1.1.2.1, ⟨hk.1.1.2.2.1, ⟨hk.1.1.2.2.2, hk.1.2⟩⟩⟩⟩⟩)), (by (with_reducible repeat (first | apply va_ | apply vn_ | apply vd_)); exact vm_ HO_186003.out (fun _ hk => ⟨hk.1.1.1, ⟨hk.2, ⟨hk.1.1.2.1, ⟨hk.1.1.2.2.1, ⟨hk.1.1.2.2.2, hk.1.2⟩⟩⟩⟩⟩)), (pk_ BK184.out), (pk_ BK185.out), (pk_ BK186.out), (pk_ BK194.out), GW194.out, GE194.out, NB184_194.out, NB194_184.out, NB185_194.out, NB194_185.out, NB186_194.out, NB194_186.out, (pb4_ HB.out GE184.out GE185.out GE186.out GE194.out)⟩)
         rintro ⟨v192, gb194⟩ w61 ⟨hS_, h0_, h1_, h2_, h3_, h4_, h5_, h6_, h7_, h8_, h9_, h10_, h11_, h12_, h13_, h14_, h15_⟩
         have n0_ : Aside0 (Kd.N k87 87 w61 w.heap.size (fun k_ => ((P0_2_ k_ ∨ P1_3_ k_) ∨ w.heap.size ≤ k_) ∧ k_ ≠ gb184 ∧ k_ ≠ gb185 ∧ k_ ≠ gb186 ∧ k_ ≠ gb194) v192 t191) := ⟨h0_⟩
         have n1_ : Aside0 (Kd.V k87 87 w61 w.heap.size (fun k_ => ((P0_2_ k_ ∨ P1_3_ k_) ∨ w.heap.size ≤ k_) ∧ some k_ ≠ (v192 : Value).ownBlock ∧ k_ ≠ gb184 ∧ k_ ≠ gb185 ∧ k_ ≠ gb186 ∧ k_ ≠ gb194) (.slice A0_2 l0_2.length c0_2) l0_2) := ⟨h1_⟩
         have n2_ : Aside0 (Kd.V k87 87 w61 w.heap.size (fun k_ => ((P0_2_ k_ ∨ P1_3_ k_) ∨ w.heap.size ≤ k_) ∧ some k_ ≠ (v192 : Value).ownBlock ∧ k_ ≠ gb184 ∧ k_ ≠ gb185 ∧ k_ ≠ gb186 ∧ k_ ≠ gb194) (.slice A1_3 l1_3.length c1_3) l1_3) := ⟨h2_⟩
         have n3_ : Aside0 (w61.heap[gb184]? = some (.cells #[.int .i64 a0_0, .int .i64 a0_1, .slice A0_2 l0_2.length c0_2] 35 (0, 0))) := ⟨h3_⟩
         have n4_ : Aside0 (w61.heap[gb185]? = some (.cells #[.int .i64 a1_0, .int .i64 a1_1, .int .i64 a1_2, .slice A1_3 l1_3.length c1_3, .int .i64 a1_4] 30 (0, 0))) := ⟨h4_⟩
         have n5_ : Aside0 (w61.heap[gb186]? = some (.cells #[.int .i64 0, .int .i64 0, .slice none 0 0] 35 (0, 0))) := ⟨h5_⟩
         have n6_ : Aside0 (w61.heap[gb194]? = some (.cells #[.int .i64 0, .int .i64 0, .slice none 0 0] 35 (0, 0))) := ⟨h6_⟩
         have n7_ : Aside0 (w.heap.size ≤ gb194) := ⟨h7_⟩
         have n8_ : Aside0 (w.heap.size ≤ gb194) := ⟨h8_⟩
         have n9_ : Aside0 (gb184 ≠ gb194) := ⟨h9_⟩
         have n10_ : Aside0 (gb194 ≠ gb184) := ⟨h10_⟩
         have n11_ : Aside0 (gb185 ≠ gb194) := ⟨h11_⟩
         have n12_ : Aside0 (gb194 ≠ gb185) := ⟨h12_⟩
         have n13_ : Aside0 (gb186 ≠ gb194) := ⟨h13_⟩
         have n14_ : Aside0 (gb194 ≠ gb186) := ⟨h14_⟩
         have n15_ : Aside0 (Below w.heap.size w w61) := ⟨h15_⟩
         clear HO_185002
         clear HO_186003
         clear BK184
         clear BK185
         clear BK186
         clear HB
         clear h0_ h1_ h2_ h3_ h4_ h5_ h6_ h7_ h8_ h9_ h10_ h11_ h12_ h13_ h14_ h15_
         have HO193 := n0_
         have HO_185002 := n1_
         have HO_186003 := n2_
         have BK184 := n3_
         have BK185 := n4_
         have BK186 := n5_
         have BK194 := n6_
         have GW194 := n7_
         have GE194 := n8_
         have NB184_194 := n9_
         have NB194_184 := n10_
         have NB185_194 := n11_
         have NB194_185 := n12_
         have NB186_194 := n13_
         have NB194_186 := n14_
         have HB := n15_
         clear n0_ n1_ n2_ n3_ n4_ n5_ n6_ n7_ n8_ n9_ n10_ n11_ n12_ n13_ n14_ n15_
         have hHeld : w61.cell? ⟨gb185, 0, none⟩ = some (.int .i64 a1_0) ∧ w61.cell? ⟨gb185, 1, none⟩ = some (.int .i64 a1_1) ∧ w61.cell? ⟨gb185, 2, none⟩ = some (.int .i64 a1_2) ∧ w61.cell? ⟨gb185, 3, none⟩ = some (.slice A1_3 l1_3.length c1_3) ∧ w61.cell? ⟨gb185, 4, none⟩ = some (.int .i64 a1_4) ∧ w61.cell? ⟨gb184, 0, none⟩ = some (.int .i64 a0_0) ∧ w61.cell? ⟨gb184, 1, none⟩ = some (.int .i64 a0_1) ∧ w61.cell? ⟨gb184, 2, none⟩ = some (.slice A0_2 l0_2.length c0_2) := hS_
         obtain ⟨Ao62, co62, eo62⟩ := Kd.N_slice HO193.out
         (first | subst eo62 | (injection eo62 with f1_ f2_ f3_; have f4_ := f1_.symm; have f5_ := f3_.symm; clear f1_ f2_ f3_; subst f4_; subst f5_))
         refine norm_ (a' := ?_) ?_ ?_
         rotate_left
         ·
          simp only [putAll, Act.put, lt1_, lt2_, lt3_]
          rfl
         refine one_ (i := 9) (N := none) #[true, true, true, true, true, true, true, true, true, true] rfl rfl (one_of HT_.out (by kernel_rfl)) (by decide) (fun K hK => ?_)
         have hs63 : w61.cell? ⟨gb194, 0, none⟩ = some (.int .i64 0) := (bc_ BK194.out 0).trans rfl
         have hfs63 := bf_ BK194.out 0
         have hns63_0 := NB184_194.out
         have hns63_1 := NB185_194.out
         have hns63_2 := NB186_194.out
         have hms63_0 := NB194_184.out
         have hms63_1 := NB194_185.out
         have hms63_2 := NB194_186.out
         have hs64 : w61.cell? ⟨gb194, 1, none⟩ = some (.int .i64 0) := (bc_ BK194.out 1).trans rfl
         have hfs64 := bf_ BK194.out 1
         have hns64_0 := NB184_194.out
         have hns64_1 := NB185_194.out
         have hns64_2 := NB186_194.out
         have hms64_0 := NB194_184.out
         have hms64_1 := NB194_185.out
         have hms64_2 := NB194_186.out
         have hs65 : w61.cell? ⟨gb194, 2, none⟩ = some (.slice none 0 0) := (bc_ BK194.out 2).trans rfl
         have hfs65 := bf_ BK194.out 2
         have hns65_0 := NB184_194.out
         have hns65_1 := NB185_194.out
         have hns65_2 := NB186_194.out
         have hms65_0 := NB194_184.out
         have hms65_1 := NB194_185.out
         have hms65_2 := NB194_186.out
         refine skip_ (w1 := ?_) (by rfl) rfl ?_ ?_
         rotate_left
         ·
          go_simp
          rfl
         refine hK.out _ _ ⟨((cell_far (p := ⟨gb194, _, none⟩) NB185_194.out _).trans (((cell_far (p := ⟨gb194, _, none⟩) NB185_194.out _).trans (((cell_far (p := ⟨gb194, _, none⟩) NB185_194.out _).trans (hHeld.1)))))), ((cell_far (p := ⟨gb194, _, none⟩) NB185_194.out _).trans (((cell_far (p := ⟨gb194, _, none⟩) NB185_194.out _).trans (((cell_far (p := ⟨gb194, _, none⟩) NB185_194.out _).trans (hHeld.2.1)))))), ((cell_far (p := ⟨gb194, _, none⟩) NB185_194.out _).trans (((cell_far (p := ⟨gb194, _, none⟩) NB185_194.out _).trans (((cell_far (p := ⟨gb194, _, none⟩) NB185_194.out _).trans (hHeld.2.2.1)))))), ((cell_far (p := ⟨gb194, _, none⟩) NB185_194.out _).trans (((cell_far (p := ⟨gb194, _, none⟩) NB185_194.out _).trans (((cell_far (p := ⟨gb194, _, none⟩) NB185_194.out _).trans (hHeld.2.2.2.1)))))), ((cell_far (p := ⟨gb194, _, none⟩) NB185_194.out _).trans (((cell_far (p := ⟨gb194, _, none⟩) NB185_194.out _).trans (((cell_far (p := ⟨gb194, _, none⟩) NB185_194.out _).trans (hHeld.2.2.2.2.1)))))), ((cell_far (p := ⟨gb194, _, none⟩) NB184_194.out _).trans (((cell_far (p := ⟨gb194, _, none⟩) NB184_194.out _).trans (((cell_far (p := ⟨gb194, _, none⟩) NB184_194.out _).trans (hHeld.2.2.2.2.2.1)))))), ((cell_far (p := ⟨gb194, _, none⟩) NB184_194.out _).trans (((cell_far (p := ⟨gb194, _, none⟩) NB184_194.out _).trans (((cell_far (p := ⟨gb194, _, none⟩) NB184_194.out _).trans (hHeld.2.2.2.2.2.2.1)))))), ((cell_far (p := ⟨gb194, _, none⟩) NB184_194.out _).trans (((cell_far (p := ⟨gb194, _, none⟩) NB184_194.out _).trans (((cell_far (p := ⟨gb194, _, none⟩) NB184_194.out _).trans (hHeld.2.2.2.2.2.2.2))))))⟩ (fun hHeld => ?_)
         clear hK K
         refine done_ (done_of HT_.out (by kernel_rfl)) ?_
         have hnb66 := NB184_194.out
         have hnc66 := NB194_184.out
         have hcz67_0 : w61.cell? ⟨gb184, 0, none⟩ = some (.int .i64 a0_0) := (bc_ BK184.out 0).trans rfl
         have hcz67_1 : w61.cell? ⟨gb184, 1, none⟩ = some (.int .i64 a0_1) := (bc_ BK184.out 1).trans rfl
         have hcz67_2 : w61.cell? ⟨gb184, 2, none⟩ = some (.slice A0_2 l0_2.length c0_2) := (bc_ BK184.out 2).trans rfl
         have hfz67_0 := bf_ BK184.out 0
         have hfz67_1 := bf_ BK184.out 1
         have hfz67_2 := bf_ BK184.out 2
         have hnb68 := NB186_194.out
         have hnc68 := NB194_186.out
         have hcz69_0 : w61.cell? ⟨gb186, 0, none⟩ = some (.int .i64 0) := (bc_ BK186.out 0).trans rfl
         have hcz69_1 : w61.cell? ⟨gb186, 1, none⟩ = some (.int .i64 0) := (bc_ BK186.out 1).trans rfl
         have hcz69_2 : w61.cell? ⟨gb186, 2, none⟩ = some (.slice none 0 0) := (bc_ BK186.out 2).trans rfl
         have hfz69_0 := bf_ BK186.out 0
         have hfz69_1 := bf_ BK186.out 1
         have hfz69_2 := bf_ BK186.out 2
         try go_wp2
         refine bodyPost_ret (results_ctt rfl _ _ gb186 35 #[.int .i64 0, .int .i64 0, .slice none 0 0] (0, 0) _ rfl (by (with_reducible repeat (first | refine bn_ ?_ _ | refine bd_ ?_ | refine ba_ ?_ _)); refine blk_put (cs := #[.int .i64 0, .int .i64 0, .slice none 0 0]) ?_ 2 _ rfl; (with_reducible repeat (first | refine bn_ ?_ _ | refine bd_ ?_ | refine ba_ ?_ _)); refine blk_put (cs := #[.int .i64 0, .int .i64 0, .slice none 0 0]) ?_ 1 _ rfl; (with_reducible repeat (first | refine bn_ ?_ _ | refine bd_ ?_ | refine ba_ ?_ _)); refine blk_put (cs := #[.int .i64 0, .int .i64 0, .slice none 0 0]) ?_ 0 _ rfl; (with_reducible repeat (first | refine bn_ ?_ _ | refine bd_ ?_ | refine ba_ ?_ _)); refine blk_far ?_ NB186_194.out _; (with_reducible repeat (first | refine bn_ ?_ _ | refine bd_ ?_ | refine ba_ ?_ _)); refine blk_far ?_ NB186_194.out _; (with_reducible repeat (first | refine bn_ ?_ _ | refine bd_ ?_ | refine ba_ ?_ _)); refine blk_far ?_ NB186_194.out _; (with_reducible repeat (first | refine bn_ ?_ _ | refine bd_ ?_ | refine ba_ ?_ _)); exact BK186.out) Try.underlying35 rfl (by kernel_rfl)) rfl ?_
         exact ⟨_, by first | rfl | (simp [errW_none, errW_some] <;> rfl) | (simp [*, errW_none, errW_some] <;> rfl), by first | exact Kd.S_nil _ _ _ _ _ | exact Kd.N_nil _ _ _ _ _ | exact Kd.V_nil _ _ _ _ _ | exact Kd.Q_nil _ _ _ _ _ | exact Kd.R_nil _ _ _ _ _, pb4_ HB.out GE184.out GE185.out GE186.out GE194.out⟩
        ·
         rw [if_neg c45] at H
         have c45b0 : decide (t190 < a0_1) = false := df_ c45
         clear c45
         by_cases c70 : 0 ≤ t190
         ·
          rw [if_pos c70] at H
          have c70b0 := eq_true c70
          have c70b1 : decide (0 ≤ t190) = true := de_ c70
          clear c70
          by_cases c71 : t190 ≤ (t191.length : Int)
          ·
           rw [if_pos c71] at H
           have c71b0 := eq_true c71
           have c71b1 : decide (t190 ≤ (t191.length : Int)) = true := de_ c71
           clear c71
           obtain ⟨y195, hy195⟩ : ∃ y_ : List (S87), y_ = (t191.take (t190 : Int).toNat) := ⟨_, rfl⟩
           replace H : (if 0 ≤ (wrap64 (t190 - a1_1)) then (if (wrap64 (t190 - a1_1)) ≤ (l1_3.length : Int) then ((replica_copied.f kj2 (l1_3.drop ((wrap64 (t190 - a1_1)) : Int).toNat)).bind fun t203 => (if y195.length + t203.length < 4398046511104 then (some (a1_0, mx a0_1 (mn a1_4 (wrap64 (a1_1 + (l1_3.length : Int)))), (y195 ++ t203), wrap64 (a1_1 + (l1_3.length : Int)), 0)) else (none))) else (none)) else (none)) = some (r1, r2, r3, r4, r5) := by first | (rw [hy195]; with_reducible exact H) | (have H2_ := (Option.bind_some _ _).symm.trans H; rw [hy195]; with_reducible exact H2_) | (have H2_ := (Option.bind_some _ _).symm.trans H; with_reducible exact H2_) | with_reducible exact H | (rw [hy195]; exact H) | exact H
           have Ny195 := am_ hy195
           clear hy195
           obtain ⟨ji72, hji72⟩ : ∃ j_ : Int, (wrap64 (t190 - a1_1)) = j_ := ⟨_, rfl⟩
           replace H : (if 0 ≤ (ji72) then (if (ji72) ≤ (l1_3.length : Int) then ((replica_copied.f kj2 (l1_3.drop ((ji72) : Int).toNat)).bind fun t203 => (if y195.length + t203.length < 4398046511104 then (some (a1_0, mx a0_1 (mn a1_4 (wrap64 (a1_1 + (l1_3.length : Int)))), (y195 ++ t203), wrap64 (a1_1 + (l1_3.length : Int)), 0)) else (none))) else (none)) else (none)) = some (r1, r2, r3, r4, r5) := by first | (rw [hji72] at H; exact H) | (simp only [hji72] at H ⊢; exact H)
           (try rw [hji72] at A40)
           (try rw [hji72] at A42)
           (try rw [hji72] at A43)
           have hji72w : (IntKind.i64.wrap (t190 - a1_1)) = ji72 := (i64_w _).trans hji72
           by_cases c73 : 0 ≤ (ji72)
           ·
            rw [if_pos c73] at H
            have c73b0 := eq_true c73
            have c73b1 : decide (0 ≤ (ji72)) = true := de_ c73
            clear c73
            by_cases c74 : (ji72) ≤ (l1_3.length : Int)
            ·
             rw [if_pos c74] at H
             have c74b0 := eq_true c74
             have c74b1 : decide ((ji72) ≤ (l1_3.length : Int)) = true := de_ c74
             clear c74
             obtain ⟨y198, hy198⟩ : ∃ y_ : List (S87), y_ = (l1_3.drop ((ji72) : Int).toNat) := ⟨_, rfl⟩
             replace H : ((replica_copied.f kj2 y198).bind fun t203 => (if y195.length + t203.length < 4398046511104 then (some (a1_0, mx a0_1 (mn a1_4 (wrap64 (a1_1 + (l1_3.length : Int)))), (y195 ++ t203), wrap64 (a1_1 + (l1_3.length : Int)), 0)) else (none))) = some (r1, r2, r3, r4, r5) := by first | (rw [hy198]; with_reducible exact H) | (have H2_ := (Option.bind_some _ _).symm.trans H; rw [hy198]; with_reducible exact H2_) | (have H2_ := (Option.bind_some _ _).symm.trans H; with_reducible exact H2_) | with_reducible exact H | (rw [hy198]; exact H) | exact H
             have Ny198 := am_ hy198
             clear hy198
             replace H := Option.bind_eq_some_iff.mp H
             obtain ⟨t203, A750, H⟩ := H
             replace H : (if y195.length + t203.length < 4398046511104 then (some (a1_0, mx a0_1 (mn a1_4 (wrap64 (a1_1 + (l1_3.length : Int)))), (y195 ++ t203), wrap64 (a1_1 + (l1_3.length : Int)), 0)) else (none)) = some (r1, r2, r3, r4, r5) := H
             have A75 := am_ A750
             clear A750
             by_cases c76 : y195.length + t203.length < 4398046511104
             ·
              rw [if_pos c76] at H
              have LMc76 := am_ c76
              clear c76
              obtain ⟨y206, hy206⟩ : ∃ y_ : List (S87), y_ = (y195 ++ t203) := ⟨_, rfl⟩
              replace H : (some (a1_0, mx a0_1 (mn a1_4 (wrap64 (a1_1 + (l1_3.length : Int)))), y206, wrap64 (a1_1 + (l1_3.length : Int)), 0)) = some (r1, r2, r3, r4, r5) := by first | (rw [hy206]; with_reducible exact H) | (have H2_ := (Option.bind_some _ _).symm.trans H; rw [hy206]; with_reducible exact H2_) | (have H2_ := (Option.bind_some _ _).symm.trans H; with_reducible exact H2_) | with_reducible exact H | (rw [hy206]; exact H) | exact H
              have Ny206 := am_ hy206
              clear hy206
              obtain ⟨ji77, hji77⟩ : ∃ j_ : Int, (mn a1_4 (wrap64 (a1_1 + (l1_3.length : Int)))) = j_ := ⟨_, rfl⟩
              replace H : (some (a1_0, mx a0_1 (ji77), y206, wrap64 (a1_1 + (l1_3.length : Int)), 0)) = some (r1, r2, r3, r4, r5) := by first | (rw [hji77] at H; exact H) | (simp only [hji77] at H ⊢; exact H)
              (try rw [hji77] at A40)
              (try rw [hji77] at A42)
              (try rw [hji77] at A43)
              (try rw [hji77] at A75)
              have hji77_ : (if (wrap64 (a1_1 + (l1_3.length : Int))) < a1_4 then (wrap64 (a1_1 + (l1_3.length : Int))) else a1_4) = ji77 := hji77
              obtain ⟨ji78, hji78⟩ : ∃ j_ : Int, (mx a0_1 (ji77)) = j_ := ⟨_, rfl⟩
              replace H : (some (a1_0, ji78, y206, wrap64 (a1_1 + (l1_3.length : Int)), 0)) = some (r1, r2, r3, r4, r5) := by first | (rw [hji78] at H; exact H) | (simp only [hji78] at H ⊢; exact H)
              (try rw [hji78] at A40)
              (try rw [hji78] at A42)
              (try rw [hji78] at A43)
              (try rw [hji78] at A75)
              have hji78_ : (if a0_1 < (ji77) then (ji77) else a0_1) = ji78 := hji78
              simp only [Option.some.injEq, Prod.mk.injEq] at H
              obtain ⟨rfl, rfl, rfl, rfl, rfl⟩ := H
              have hnb79 := NB185_184.out
              have hnc79 := NB184_185.out
              have hnb80 := NB185_186.out
              have hnc80 := NB186_185.out
              have hcz81_0 : wc.cell? ⟨gb185, 0, none⟩ = some (.int .i64 a1_0) := (bc_ BK185.out 0).trans rfl
              have hcz81_1 : wc.cell? ⟨gb185, 1, none⟩ = some (.int .i64 a1_1) := (bc_ BK185.out 1).trans rfl
              have hcz81_2 : wc.cell? ⟨gb185, 2, none⟩ = some (.int .i64 a1_2) := (bc_ BK185.out 2).trans rfl
              have hcz81_3 : wc.cell? ⟨gb185, 3, none⟩ = some (.slice A1_3 l1_3.length c1_3) := (bc_ BK185.out 3).trans rfl
              have hcz81_4 : wc.cell? ⟨gb185, 4, none⟩ = some (.int .i64 a1_4) := (bc_ BK185.out 4).trans rfl
              have hfz81_0 := bf_ BK185.out 0
              have hfz81_1 := bf_ BK185.out 1
              have hfz81_2 := bf_ BK185.out 2
              have hfz81_3 := bf_ BK185.out 3
              have hfz81_4 := bf_ BK185.out 4
              have hnb82 := NB184_186.out
              have hnc82 := NB186_184.out
              have hcz83_0 : wc.cell? ⟨gb184, 0, none⟩ = some (.int .i64 a0_0) := (bc_ BK184.out 0).trans rfl
              have hcz83_1 : wc.cell? ⟨gb184, 1, none⟩ = some (.int .i64 a0_1) := (bc_ BK184.out 1).trans rfl
              have hcz83_2 : wc.cell? ⟨gb184, 2, none⟩ = some (.slice A0_2 l0_2.length c0_2) := (bc_ BK184.out 2).trans rfl
              have hfz83_0 := bf_ BK184.out 0
              have hfz83_1 := bf_ BK184.out 1
              have hfz83_2 := bf_ BK184.out 2
              try go_wp2
              have n0_ := am_ (vd_ HO_185002.out)
              have n1_ := am_ (vd_ HO_186003.out)
              have n2_ := am_ (bd_ BK184.out)
              have n3_ := am_ (bd_ BK185.out)
              have n4_ := am_ (bd_ BK186.out)
              have n5_ := am_ (b1_ HB.out)
              clear HO_185002
              clear HO_186003
              clear BK184
              clear BK185
              clear BK186
              clear HB
              have HO_185002 := n0_
              have HO_186003 := n1_
              have BK184 := n2_
              have BK185 := n3_
              have BK186 := n4_
              have HB := n5_
              clear n0_ n1_ n2_ n3_ n4_ n5_
              refine start_ (n := 16) (S := fun w' => w'.cell? ⟨gb184, 0, none⟩ = some (.int .i64 a0_0) ∧ w'.cell? ⟨gb184, 1, none⟩ = some (.int .i64 a0_1) ∧ w'.cell? ⟨gb184, 2, none⟩ = some (.slice A0_2 l0_2.length c0_2) ∧ w'.cell? ⟨gb185, 0, none⟩ = some (.int .i64 a1_0) ∧ w'.cell? ⟨gb185, 1, none⟩ = some (.int .i64 a1_1) ∧ w'.cell? ⟨gb185, 2, none⟩ = some (.int .i64 a1_2) ∧ w'.cell? ⟨gb185, 3, none⟩ = some (.slice A1_3 l1_3.length c1_3) ∧ w'.cell? ⟨gb185, 4, none⟩ = some (.int .i64 a1_4)) (ds := []) #[false, false, false, false, false, false, false, false, false, false, false, false, false, false, false, false] (by kernel_rfl) rfl rfl ⟨(bc_ BK184.out 0).trans rfl, (bc_ BK184.out 1).trans rfl, (bc_ BK184.out 2).trans rfl, (bc_ BK185.out 0).trans rfl, (bc_ BK185.out 1).trans rfl, (bc_ BK185.out 2).trans rfl, (bc_ BK185.out 3).trans rfl, (bc_ BK185.out 4).trans rfl⟩ (fun hHeld => ?_); refine with_tabW replica_Accept.tab5 replica_Accept.bits5 (fun HT_ HW_ => ?_)
              generalize wc.drew = w84 at HO_185002 HO_186003 BK184 BK185 BK186 HB hHeld ⊢
              refine pure_ (i := 0) (N := some 28) (v := ?_) (a' := ?_) #[true, false, false, false, false, false, false, false, false, false, false, false, false, false, false, false] rfl rfl (any_of HT_.out (by kernel_rfl)) (fun _ _ _ h => h) (Or.inl ⟨by rfl, ?_⟩) ?_ ?_
              rotate_left
              ·
               intro w'
               go_simp
               with_reducible rfl
              rotate_left
              ·
               simp only [Act.put, lt1_, lt2_, lt3_, i64_w, i32_w]
               rfl
              refine pure_ (i := 3) (N := some 31) (v := ?_) (a' := ?_) #[true, false, false, true, false, false, false, false, false, false, false, false, false, false, false, false] rfl rfl (any_of HT_.out (by kernel_rfl)) (fun _ _ _ h => h) (Or.inl ⟨by rfl, ?_⟩) ?_ ?_
              rotate_left
              ·
               intro w'
               go_simp
               with_reducible rfl
              rotate_left
              ·
               simp only [Act.put, lt1_, lt2_, lt3_, i64_w, i32_w]
               rfl
              refine take_ (i := 1) (N := some 29) (v := ?_) (a' := ?_) #[true, true, false, true, false, false, false, false, false, false, false, false, false, false, false, false] rfl rfl (take_ofW HT_.out HW_.out (by kernel_rfl)) (fun _ _ _ h => h) (Or.inl ⟨by rfl, ?_⟩) hHeld ?_ ?_
              rotate_left
              ·
               rintro w' ⟨s0, s1, s2, s3, s4, s5, s6, s7⟩
               go_simp
               with_reducible rfl
              rotate_left
              ·
               simp only [Act.put, lt1_, lt2_, lt3_, i64_w, i32_w]
               rfl
              refine pure_ (i := 2) (N := some 30) (v := ?_) (a' := ?_) #[true, true, true, true, false, false, false, false, false, false, false, false, false, false, false, false] rfl rfl (any_of HT_.out (by kernel_rfl)) (fun _ _ _ h => h) (Or.inl ⟨by rfl, ?_⟩) ?_ ?_
              rotate_left
              ·
               intro w'
               go_simp
               with_reducible rfl
              rotate_left
              ·
               simp only [Act.put, lt1_, lt2_, lt3_, i64_w, i32_w]
               rfl
              refine take_ (i := 4) (N := some 32) (v := ?_) (a' := ?_) #[true, true, true, true, true, false, false, false, false, false, false, false, false, false, false, false] rfl rfl (take_ofW HT_.out HW_.out (by kernel_rfl)) (fun _ _ _ h => h) (Or.inl ⟨by rfl, ?_⟩) hHeld ?_ ?_
              rotate_left
              ·
               rintro w' ⟨s0, s1, s2, s3, s4, s5, s6, s7⟩
               go_simp
               with_reducible rfl
              rotate_left
              ·
               simp only [Act.put, lt1_, lt2_, lt3_, i64_w, i32_w]
               rfl
              refine pure_ (i := 5) (N := some 33) (v := ?_) (a' := ?_) #[true, true, true, true, true, true, false, false, false, false, false, false, false, false, false, false] rfl rfl (any_of HT_.out (by kernel_rfl)) (fun _ _ _ h => h) (Or.inl ⟨by rfl, ?_⟩) ?_ ?_
              rotate_left
              ·
               intro w'
               go_simp
               with_reducible rfl
              rotate_left
              ·
               simp only [Act.put, lt1_, lt2_, lt3_, i64_w, i32_w]
               rfl
              refine pure_ (i := 6) (N := some 34) (v := ?_) (a' := ?_) #[true, true, true, true, true, true, true, false, false, false, false, false, false, false, false, false] rfl rfl (any_of HT_.out (by kernel_rfl)) (fun _ _ _ h => h) (Or.inl ⟨by rfl, ?_⟩) ?_ ?_
              rotate_left
              ·
               intro w'
               go_simp
               with_reducible rfl
              rotate_left
              ·
               simp only [Act.put, lt1_, lt2_, lt3_, i64_w, i32_w]
               rfl
              refine pure_ (i := 8) (N := some 36) (v := ?_) (a' := ?_) #[true, true, true, true, true, true, true, false, true, false, false, false, false, false, false, false] rfl rfl (any_of HT_.out (by kernel_rfl)) (fun _ _ _ h => h) (Or.inl ⟨by rfl, ?_⟩) ?_ ?_
              rotate_left
              ·
               intro w'
               go_simp
               with_reducible rfl
              rotate_left
              ·
               simp only [Act.put, lt1_, lt2_, lt3_, i64_w, i32_w]
               rfl
              refine pure_ (i := 11) (N := some 39) (v := ?_) (a' := ?_) #[true, true, true, true, true, true, true, false, true, false, false, true, false, false, false, false] rfl rfl (any_of HT_.out (by kernel_rfl)) (fun _ _ _ h => h) (Or.inl ⟨by rfl, ?_⟩) ?_ ?_
              rotate_left
              ·
               intro w'
               go_simp
               with_reducible rfl
              rotate_left
              ·
               simp only [Act.put, lt1_, lt2_, lt3_, i64_w, i32_w]
               rfl
              refine take_ (i := 7) (N := some 35) (v := ?_) (a' := ?_) #[true, true, true, true, true, true, true, true, true, false, false, true, false, false, false, false] rfl rfl (take_ofW HT_.out HW_.out (by kernel_rfl)) (fun _ _ _ h => h) (Or.inl ⟨by rfl, ?_⟩) hHeld ?_ ?_
              rotate_left
              ·
               rintro w' ⟨s0, s1, s2, s3, s4, s5, s6, s7⟩
               go_simp
               with_reducible rfl
              rotate_left
              ·
               simp only [Act.put, lt1_, lt2_, lt3_, i64_w, i32_w]
               rfl
              refine take_ (i := 9) (N := some 37) (v := ?_) (a' := ?_) #[true, true, true, true, true, true, true, true, true, true, false, true, false, false, false, false] rfl rfl (take_ofW HT_.out HW_.out (by kernel_rfl)) (fun _ _ _ h => h) (Or.inl ⟨by rfl, ?_⟩) hHeld ?_ ?_
              rotate_left
              ·
               rintro w' ⟨s0, s1, s2, s3, s4, s5, s6, s7⟩
               go_simp
               with_reducible rfl
              rotate_left
              ·
               simp only [Act.put, lt1_, lt2_, lt3_, i64_w, i32_w]
               rfl
              refine take_ (i := 12) (N := some 40) (v := ?_) (a' := ?_) #[true, true, true, true, true, true, true, true, true, true, false, true, true, false, false, false] rfl rfl (take_ofW HT_.out HW_.out (by kernel_rfl)) (fun _ _ _ h => h) (Or.inl ⟨by rfl, ?_⟩) hHeld ?_ ?_
              rotate_left
              ·
               rintro w' ⟨s0, s1, s2, s3, s4, s5, s6, s7⟩
               go_simp
               with_reducible rfl
              rotate_left
              ·
               simp only [Act.put, lt1_, lt2_, lt3_, i64_w, i32_w]
               rfl
              refine one_ (i := 10) (N := some 38) #[true, true, true, true, true, true, true, true, true, true, true, true, true, false, false, false] rfl rfl (one_of HT_.out (by kernel_rfl)) (by decide) (fun K hK => ?_)
              refine goes_ Try.func28 (by kernel_rfl) rfl #[.agg #[.int .i64 a0_0, .int .i64 a0_1, .slice A0_2 l0_2.length c0_2], .int .i64 a1_1] (by rfl) rfl rfl au_ ?_
              with_reducible refine (replica_Node_end.calls a0_0 a0_1 _ _ l0_2 a1_1 t189 _ ?side1 ?side2 A40.out).mono ?_
              (case side1 => repeat (first | exact (Kd.V_reads' HO_185002.out).2.2 | (with_reducible refine Kd.C_alloc ?_ _) | (with_reducible refine Kd.C_drewN ?_ _) | (with_reducible refine Kd.C_drew ?_)))
              (case side2 => exact (Kd.V_reads' HO_185002.out).2.1)
              rintro e w85 ⟨rfl, hb⟩
              refine ⟨_, rfl, ?_⟩
              have n0_ := am_ (vb_ (pV_ HO_185002.out) hb)
              have n1_ := am_ (vb_ (pV_ HO_186003.out) hb)
              have n2_ := am_ (bw_ (g := gb184) (o := .cells #[.int .i64 a0_0, .int .i64 a0_1, .slice A0_2 l0_2.length c0_2] 35 (0, 0)) (pk_ BK184.out) hb)
              have n3_ := am_ (bw_ (g := gb185) (o := .cells #[.int .i64 a1_0, .int .i64 a1_1, .int .i64 a1_2, .slice A1_3 l1_3.length c1_3, .int .i64 a1_4] 30 (0, 0)) (pk_ BK185.out) hb)
              have n4_ := am_ (bw_ (g := gb186) (o := .cells #[.int .i64 0, .int .i64 0, .slice none 0 0] 35 (0, 0)) (pk_ BK186.out) hb)
              have n5_ := am_ (sp_ (pb3_ HB.out GE184.out GE185.out GE186.out) hb)
              clear HO_185002
              clear HO_186003
              clear BK184
              clear BK185
              clear BK186
              clear HB
              have HO_185002 := n0_
              have HO_186003 := n1_
              have BK184 := n2_
              have BK185 := n3_
              have BK186 := n4_
              have HB := n5_
              clear n0_ n1_ n2_ n3_ n4_ n5_
              (try clear hb)
              (try clear hb2)
              (try clear hk)
              (try clear hi)
              refine hK.out _ _ ⟨(bc_ BK184.out 0).trans rfl, (bc_ BK184.out 1).trans rfl, (bc_ BK184.out 2).trans rfl, (bc_ BK185.out 0).trans rfl, (bc_ BK185.out 1).trans rfl, (bc_ BK185.out 2).trans rfl, (bc_ BK185.out 3).trans rfl, (bc_ BK185.out 4).trans rfl⟩ (fun hHeld => ?_)
              clear hK K
              refine norm_ (a' := ?_) ?_ ?_
              rotate_left
              ·
               show Act.put _ (some 38) _ = _
               simp only [Act.put, lt1_, lt2_, lt3_, i64_w, i32_w]
               rfl
              refine pure_ (i := 13) (N := some 41) (v := ?_) (a' := ?_) #[true, true, true, true, true, true, true, true, true, true, true, true, true, true, false, false] rfl rfl (any_of HT_.out (by kernel_rfl)) (fun _ _ _ h => h) (Or.inl ⟨by rfl, ?_⟩) ?_ ?_
              rotate_left
              ·
               intro w'
               go_simp
               with_reducible rfl
              rotate_left
              ·
               simp only [Act.put, lt1_, lt2_, lt3_, i64_w, i32_w]
               rfl
              refine pure_ (i := 14) (N := some 42) (v := ?_) (a' := ?_) #[true, true, true, true, true, true, true, true, true, true, true, true, true, true, true, false] rfl rfl (any_of HT_.out (by kernel_rfl)) (fun _ _ _ h => h) (Or.inl ⟨by rfl, ?_⟩) ?_ ?_
              rotate_left
              ·
               intro w'
               go_simp
               with_reducible rfl
              rotate_left
              ·
               simp only [Act.put, lt1_, lt2_, lt3_, i64_w, i32_w]
               rfl
              refine pure_ (i := 15) (N := some 27) (v := ?_) (a' := ?_) #[true, true, true, true, true, true, true, true, true, true, true, true, true, true, true, true] rfl rfl (any_of HT_.out (by kernel_rfl)) (fun _ _ _ h => h) (Or.inl ⟨by rfl, ?_⟩) ?_ ?_
              rotate_left
              ·
               intro w'
               go_simp
               with_reducible rfl
              rotate_left
              ·
               simp only [Act.put, lt1_, lt2_, lt3_, i64_w, i32_w]
               rfl
              refine done_ (done_of HT_.out (by kernel_rfl)) ?_
              have hcz86_0 : w85.cell? ⟨gb184, 0, none⟩ = some (.int .i64 a0_0) := (bc_ BK184.out 0).trans rfl
              have hcz86_1 : w85.cell? ⟨gb184, 1, none⟩ = some (.int .i64 a0_1) := (bc_ BK184.out 1).trans rfl
              have hcz86_2 : w85.cell? ⟨gb184, 2, none⟩ = some (.slice A0_2 l0_2.length c0_2) := (bc_ BK184.out 2).trans rfl
              have hfz86_0 := bf_ BK184.out 0
              have hfz86_1 := bf_ BK184.out 1
              have hfz86_2 := bf_ BK184.out 2
              have hcz87_0 : w85.cell? ⟨gb185, 0, none⟩ = some (.int .i64 a1_0) := (bc_ BK185.out 0).trans rfl
              have hcz87_1 : w85.cell? ⟨gb185, 1, none⟩ = some (.int .i64 a1_1) := (bc_ BK185.out 1).trans rfl
              have hcz87_2 : w85.cell? ⟨gb185, 2, none⟩ = some (.int .i64 a1_2) := (bc_ BK185.out 2).trans rfl
              have hcz87_3 : w85.cell? ⟨gb185, 3, none⟩ = some (.slice A1_3 l1_3.length c1_3) := (bc_ BK185.out 3).trans rfl
              have hcz87_4 : w85.cell? ⟨gb185, 4, none⟩ = some (.int .i64 a1_4) := (bc_ BK185.out 4).trans rfl
              have hfz87_0 := bf_ BK185.out 0
              have hfz87_1 := bf_ BK185.out 1
              have hfz87_2 := bf_ BK185.out 2
              have hfz87_3 := bf_ BK185.out 3
              have hfz87_4 := bf_ BK185.out 4
              try go_wp2_with (first | ((with_reducible refine gate_callee (f := 37) rfl ?_); refine goesL_ (some 46) rfl rfl Try.func37 (by kernel_rfl) rfl #[.agg #[.int .i64 a0_0, .int .i64 a0_1, .slice A0_2 l0_2.length c0_2], .agg #[.int .i64 a1_0, .int .i64 a1_1, .int .i64 a1_2, .slice A1_3 l1_3.length c1_3, .int .i64 a1_4]] rfl au_ ?_; (with_reducible refine (replica_agreed.calls kj2 a0_0 a0_1 _ _ l0_2 a1_0 a1_1 a1_2 _ _ l1_3 a1_4 t190 _ ?side1 ?side2 ?side3 ?side4 A42.out).mono ?_); (case side1 => repeat (first | exact (Kd.V_reads' HO_185002.out).2.2 | (with_reducible refine Kd.C_alloc ?_ _) | (with_reducible refine Kd.C_drewN ?_ _) | (with_reducible refine Kd.C_drew ?_))); (case side2 => exact (Kd.V_reads' HO_185002.out).2.1); (case side3 => repeat (first | exact (Kd.V_reads' HO_186003.out).2.2 | (with_reducible refine Kd.C_alloc ?_ _) | (with_reducible refine Kd.C_drewN ?_ _) | (with_reducible refine Kd.C_drew ?_))); (case side4 => exact (Kd.V_reads' HO_186003.out).2.1); rintro e w88 ⟨rfl, hb⟩; refine ⟨_, rfl, ?_⟩; have n0_ := am_ (vb_ (pV_ HO_185002.out) hb); have n1_ := am_ (vb_ (pV_ HO_186003.out) hb); have n2_ := am_ (bw_ (g := gb184) (o := .cells #[.int .i64 a0_0, .int .i64 a0_1, .slice A0_2 l0_2.length c0_2] 35 (0, 0)) (pk_ BK184.out) hb); have n3_ := am_ (bw_ (g := gb185) (o := .cells #[.int .i64 a1_0, .int .i64 a1_1, .int .i64 a1_2, .slice A1_3 l1_3.length c1_3, .int .i64 a1_4] 30 (0, 0)) (pk_ BK185.out) hb); have n4_ := am_ (bw_ (g := gb186) (o := .cells #[.int .i64 0, .int .i64 0, .slice none 0 0] 35 (0, 0)) (pk_ BK186.out) hb); have n5_ := am_ (sp_ (pb3_ HB.out GE184.out GE185.out GE186.out) hb); clear HO_185002; clear HO_186003; clear BK184; clear BK185; clear BK186; clear HB; have HO_185002 := n0_; have HO_186003 := n1_; have BK184 := n2_; have BK185 := n3_; have BK186 := n4_; have HB := n5_; clear n0_ n1_ n2_ n3_ n4_ n5_; (try clear hb); (try clear hb2); (try clear hk); (try clear hi); have hcz89_0 : w88.cell? ⟨gb185, 0, none⟩ = some (.int .i64 a1_0) := (bc_ BK185.out 0).trans rfl; have hcz89_1 : w88.cell? ⟨gb185, 1, none⟩ = some (.int .i64 a1_1) := (bc_ BK185.out 1).trans rfl; have hcz89_2 : w88.cell? ⟨gb185, 2, none⟩ = some (.int .i64 a1_2) := (bc_ BK185.out 2).trans rfl; have hcz89_3 : w88.cell? ⟨gb185, 3, none⟩ = some (.slice A1_3 l1_3.length c1_3) := (bc_ BK185.out 3).trans rfl; have hcz89_4 : w88.cell? ⟨gb185, 4, none⟩ = some (.int .i64 a1_4) := (bc_ BK185.out 4).trans rfl; have hfz89_0 := bf_ BK185.out 0; have hfz89_1 := bf_ BK185.out 1; have hfz89_2 := bf_ BK185.out 2; have hfz89_3 := bf_ BK185.out 3; have hfz89_4 := bf_ BK185.out 4))
              have n0_ := am_ (vd_ HO_185002.out)
              have n1_ := am_ (vd_ HO_186003.out)
              have n2_ := am_ (bd_ BK184.out)
              have n3_ := am_ (bd_ BK185.out)
              have n4_ := am_ (bd_ BK186.out)
              have n5_ := am_ (b1_ HB.out)
              clear HO_185002
              clear HO_186003
              clear BK184
              clear BK185
              clear BK186
              clear HB
              have HO_185002 := n0_
              have HO_186003 := n1_
              have BK184 := n2_
              have BK185 := n3_
              have BK186 := n4_
              have HB := n5_
              clear n0_ n1_ n2_ n3_ n4_ n5_
              refine start_ (n := 10) (S := fun w' => w'.cell? ⟨gb185, 0, none⟩ = some (.int .i64 a1_0) ∧ w'.cell? ⟨gb185, 1, none⟩ = some (.int .i64 a1_1) ∧ w'.cell? ⟨gb185, 2, none⟩ = some (.int .i64 a1_2) ∧ w'.cell? ⟨gb185, 3, none⟩ = some (.slice A1_3 l1_3.length c1_3) ∧ w'.cell? ⟨gb185, 4, none⟩ = some (.int .i64 a1_4) ∧ w'.cell? ⟨gb184, 0, none⟩ = some (.int .i64 a0_0) ∧ w'.cell? ⟨gb184, 1, none⟩ = some (.int .i64 a0_1) ∧ w'.cell? ⟨gb184, 2, none⟩ = some (.slice A0_2 l0_2.length c0_2)) (ds := []) #[false, false, false, false, false, false, false, false, false, false] (by kernel_rfl) rfl rfl ⟨(bc_ BK185.out 0).trans rfl, (bc_ BK185.out 1).trans rfl, (bc_ BK185.out 2).trans rfl, (bc_ BK185.out 3).trans rfl, (bc_ BK185.out 4).trans rfl, (bc_ BK184.out 0).trans rfl, (bc_ BK184.out 1).trans rfl, (bc_ BK184.out 2).trans rfl⟩ (fun hHeld => ?_); refine with_tabW replica_Accept.tab9 replica_Accept.bits9 (fun HT_ HW_ => ?_)
              generalize w88.drew = w90 at HO_185002 HO_186003 BK184 BK185 BK186 HB hHeld ⊢
              refine pure_ (i := 0) (N := some 53) (v := ?_) (a' := ?_) #[true, false, false, false, false, false, false, false, false, false] rfl rfl (any_of HT_.out (by kernel_rfl)) (fun _ _ _ h => h) (Or.inl ⟨by rfl, ?_⟩) ?_ ?_
              rotate_left
              ·
               intro w'
               go_simp
               with_reducible rfl
              rotate_left
              ·
               simp only [Act.put, lt1_, lt2_, lt3_, i64_w, i32_w]
               rfl
              refine pure_ (i := 2) (N := some 55) (v := ?_) (a' := ?_) #[true, false, true, false, false, false, false, false, false, false] rfl rfl (any_of HT_.out (by kernel_rfl)) (fun _ _ _ h => h) (Or.inl ⟨by rfl, ?_⟩) ?_ ?_
              rotate_left
              ·
               intro w'
               go_simp
               with_reducible rfl
              rotate_left
              ·
               simp only [Act.put, lt1_, lt2_, lt3_, i64_w, i32_w]
               rfl
              refine pure_ (i := 4) (N := some 57) (v := ?_) (a' := ?_) #[true, false, true, false, true, false, false, false, false, false] rfl rfl (any_of HT_.out (by kernel_rfl)) (fun _ _ _ h => h) (Or.inl ⟨by rfl, ?_⟩) ?_ ?_
              rotate_left
              ·
               intro w'
               go_simp
               with_reducible rfl
              rotate_left
              ·
               simp only [Act.put, lt1_, lt2_, lt3_, i64_w, i32_w]
               rfl
              refine take_ (i := 1) (N := some 54) (v := ?_) (a' := ?_) #[true, true, true, false, true, false, false, false, false, false] rfl rfl (take_ofW HT_.out HW_.out (by kernel_rfl)) (fun _ _ _ h => h) (Or.inl ⟨by rfl, ?_⟩) hHeld ?_ ?_
              rotate_left
              ·
               rintro w' ⟨s0, s1, s2, s3, s4, s5, s6, s7⟩
               go_simp
               with_reducible rfl
              rotate_left
              ·
               simp only [Act.put, lt1_, lt2_, lt3_, i64_w, i32_w]
               rfl
              refine take_ (i := 3) (N := some 56) (v := ?_) (a' := ?_) #[true, true, true, true, true, false, false, false, false, false] rfl rfl (take_ofW HT_.out HW_.out (by kernel_rfl)) (fun _ _ _ h => h) (Or.inl ⟨by rfl, ?_⟩) hHeld ?_ ?_
              rotate_left
              ·
               rintro w' ⟨s0, s1, s2, s3, s4, s5, s6, s7⟩
               go_simp
               with_reducible rfl
              rotate_left
              ·
               simp only [Act.put, lt1_, lt2_, lt3_, i64_w, i32_w]
               rfl
              refine take_ (i := 5) (N := some 58) (v := ?_) (a' := ?_) #[true, true, true, true, true, true, false, false, false, false] rfl rfl (take_ofW HT_.out HW_.out (by kernel_rfl)) (fun _ _ _ h => h) (Or.inl ⟨by rfl, ?_⟩) hHeld ?_ ?_
              rotate_left
              ·
               rintro w' ⟨s0, s1, s2, s3, s4, s5, s6, s7⟩
               go_simp
               with_reducible rfl
              rotate_left
              ·
               simp only [Act.put, lt1_, lt2_, lt3_, i64_w, i32_w]
               rfl
              refine join_ (σ := Value × Nat) 1 #[true, true, true, true, true, true, true, true, true, false] (fun s_ => [(59, s_.1), (9, .pointer (some ⟨s_.2, 0, none⟩)), (60, .agg #[.int .i64 a1_0, .int .i64 a0_1, s_.1])]) (fun s_ w' => (w'.cell? ⟨gb185, 0, none⟩ = some (.int .i64 a1_0) ∧ w'.cell? ⟨gb185, 1, none⟩ = some (.int .i64 a1_1) ∧ w'.cell? ⟨gb185, 2, none⟩ = some (.int .i64 a1_2) ∧ w'.cell? ⟨gb185, 3, none⟩ = some (.slice A1_3 l1_3.length c1_3) ∧ w'.cell? ⟨gb185, 4, none⟩ = some (.int .i64 a1_4) ∧ w'.cell? ⟨gb184, 0, none⟩ = some (.int .i64 a0_0) ∧ w'.cell? ⟨gb184, 1, none⟩ = some (.int .i64 a0_1) ∧ w'.cell? ⟨gb184, 2, none⟩ = some (.slice A0_2 l0_2.length c0_2)) ∧ (Kd.N k87 87 w' w.heap.size (fun k_ => ((P0_2_ k_ ∨ P1_3_ k_) ∨ w.heap.size ≤ k_) ∧ k_ ≠ gb184 ∧ k_ ≠ gb185 ∧ k_ ≠ gb186 ∧ k_ ≠ s_.2) s_.1 t191) ∧ (Kd.V k87 87 w' w.heap.size (fun k_ => ((P0_2_ k_ ∨ P1_3_ k_) ∨ w.heap.size ≤ k_) ∧ some k_ ≠ (s_.1 : Value).ownBlock ∧ k_ ≠ gb184 ∧ k_ ≠ gb185 ∧ k_ ≠ gb186 ∧ k_ ≠ s_.2) (.slice A0_2 l0_2.length c0_2) l0_2) ∧ (Kd.V k87 87 w' w.heap.size (fun k_ => ((P0_2_ k_ ∨ P1_3_ k_) ∨ w.heap.size ≤ k_) ∧ some k_ ≠ (s_.1 : Value).ownBlock ∧ k_ ≠ gb184 ∧ k_ ≠ gb185 ∧ k_ ≠ gb186 ∧ k_ ≠ s_.2) (.slice A1_3 l1_3.length c1_3) l1_3) ∧ (w'.heap[gb184]? = some (.cells #[.int .i64 a0_0, .int .i64 a0_1, .slice A0_2 l0_2.length c0_2] 35 (0, 0))) ∧ (w'.heap[gb185]? = some (.cells #[.int .i64 a1_0, .int .i64 a1_1, .int .i64 a1_2, .slice A1_3 l1_3.length c1_3, .int .i64 a1_4] 30 (0, 0))) ∧ (w'.heap[gb186]? = some (.cells #[.int .i64 0, .int .i64 0, .slice none 0 0] 35 (0, 0))) ∧ (w'.heap[s_.2]? = some (.cells #[.int .i64 0, .int .i64 0, .slice none 0 0] 35 (0, 0))) ∧ (w.heap.size ≤ s_.2) ∧ (w.heap.size ≤ s_.2) ∧ (gb184 ≠ s_.2) ∧ (s_.2 ≠ gb184) ∧ (gb185 ≠ s_.2) ∧ (s_.2 ≠ gb185) ∧ (gb186 ≠ s_.2) ∧ (s_.2 ≠ gb186) ∧ (Below w.heap.size w w')) ?_ ?_
              rotate_left
              ·
               intro hCont
               refine two_ (i := 6) (j := 8) (Ni := some 59) (Nj := some 9) #[true, true, true, true, true, true, true, false, false, false] #[true, true, true, true, true, true, false, false, true, false] rfl rfl rfl rfl (two_of HT_.out (by kernel_rfl)) (by decide) (by decide) (fun K hK => ?_) (fun K hK => ?_)
               ·
                skip
                refine goes_ Try.func29 (by kernel_rfl) rfl #[.slice A0_2 l0_2.length c0_2] (by rfl) rfl rfl au_ ?_
                with_reducible refine (replica_copied.calls kj2 (fun k_ => (((P0_2_ k_ ∨ P1_3_ k_) ∨ w.heap.size ≤ k_) ∧ (k_ ≠ gb184 ∧ (k_ ≠ gb185 ∧ k_ ≠ gb186)))) _ _ l0_2 t191 _ ?side1 A43.out).mono ?_
                (case side1 => exact HO_185002.out)
                rintro e w91 ⟨v192, rfl, ho0, hb⟩
                refine ⟨_, rfl, ?_⟩
                have n0_ := am_ (Kd.V_elder' (pV_ HO_185002.out) (Kd.N_base ho0) hb)
                have n1_ := am_ (Kd.V_elder' (pV_ HO_186003.out) (Kd.N_base ho0) hb)
                have n2_ := am_ (nl_ (nm_ (ok' := fun k_ => ((P0_2_ k_ ∨ P1_3_ k_) ∨ w.heap.size ≤ k_) ∧ k_ ≠ gb184 ∧ k_ ≠ gb185 ∧ k_ ≠ gb186) ho0 (fun k_ hk_ => ⟨Or.elim hk_ (fun hs_ => hs_.1) (fun hn_ => (.inr (Nat.le_trans (bz_ (pb3_ HB.out GE184.out GE185.out GE186.out)) hn_))), Or.elim hk_ (fun hs_ => hs_.2.1) (fun hn_ => (fb_ (g := gb184) (o := .cells #[.int .i64 a0_0, .int .i64 a0_1, .slice A0_2 l0_2.length c0_2] 35 (0, 0)) (pk_ BK184.out) k_ hn_)), Or.elim hk_ (fun hs_ => hs_.2.2.1) (fun hn_ => (fb_ (g := gb185) (o := .cells #[.int .i64 a1_0, .int .i64 a1_1, .int .i64 a1_2, .slice A1_3 l1_3.length c1_3, .int .i64 a1_4] 30 (0, 0)) (pk_ BK185.out) k_ hn_)), Or.elim hk_ (fun hs_ => hs_.2.2.2) (fun hn_ => (fb_ (g := gb186) (o := .cells #[.int .i64 0, .int .i64 0, .slice none 0 0] 35 (0, 0)) (pk_ BK186.out) k_ hn_))⟩)) (bz_ (pb3_ HB.out GE184.out GE185.out GE186.out)))
                have n3_ := am_ (bw_ (g := gb184) (o := .cells #[.int .i64 a0_0, .int .i64 a0_1, .slice A0_2 l0_2.length c0_2] 35 (0, 0)) (pk_ BK184.out) hb)
                have n4_ := am_ (bw_ (g := gb185) (o := .cells #[.int .i64 a1_0, .int .i64 a1_1, .int .i64 a1_2, .slice A1_3 l1_3.length c1_3, .int .i64 a1_4] 30 (0, 0)) (pk_ BK185.out) hb)
                have n5_ := am_ (bw_ (g := gb186) (o := .cells #[.int .i64 0, .int .i64 0, .slice none 0 0] 35 (0, 0)) (pk_ BK186.out) hb)
                have n6_ := am_ (sp_ (pb3_ HB.out GE184.out GE185.out GE186.out) hb)
                clear HO_185002
                clear HO_186003
                clear BK184
                clear BK185
                clear BK186
                clear HB
                have HO_185002 := n0_
                have HO_186003 := n1_
                have HO193 := n2_
                have BK184 := n3_
                have BK185 := n4_
                have BK186 := n5_
                have HB := n6_
                clear n0_ n1_ n2_ n3_ n4_ n5_ n6_
                (try clear hb)
                (try clear hb2)
                (try clear hk)
                (try clear hi)
                (try clear ho0)
                obtain ⟨Ao92, co92, eo92⟩ := Kd.N_slice HO193.out
                (first | subst eo92 | (injection eo92 with f1_ f2_ f3_; have f4_ := f1_.symm; have f5_ := f3_.symm; clear f1_ f2_ f3_; subst f4_; subst f5_))
                refine hK.out _ _ ⟨(bc_ BK185.out 0).trans rfl, (bc_ BK185.out 1).trans rfl, (bc_ BK185.out 2).trans rfl, (bc_ BK185.out 3).trans rfl, (bc_ BK185.out 4).trans rfl, (bc_ BK184.out 0).trans rfl, (bc_ BK184.out 1).trans rfl, (bc_ BK184.out 2).trans rfl⟩ (fun hHeld => ?_)
                clear hK K
                refine norm_ (a' := ?_) ?_ ?_
                rotate_left
                ·
                 show Act.put _ (some 59) _ = _
                 simp only [Act.put, lt1_, lt2_, lt3_, i64_w, i32_w]
                 rfl
                refine pure_ (i := 7) (N := some 60) (v := ?_) (a' := ?_) #[true, true, true, true, true, true, true, true, false, false] rfl rfl (any_of HT_.out (by kernel_rfl)) (fun _ _ _ h => h) (Or.inl ⟨by rfl, ?_⟩) ?_ ?_
                rotate_left
                ·
                 intro w'
                 go_simp
                 with_reducible rfl
                rotate_left
                ·
                 simp only [Act.put, lt1_, lt2_, lt3_, i64_w, i32_w]
                 rfl
                refine one_ (i := 8) (N := some 9) #[true, true, true, true, true, true, true, true, true, false] rfl rfl (one_of HT_.out (by kernel_rfl)) (by decide) (fun K hK => ?_)
                refine box_step ?hg (N := 9) ?hd (cs := #[.int .i64 0, .int .i64 0, .slice none 0 0]) (t := 35) ?hr ?_; (case hd => rfl); (case hg => rfl); (case hr => first | (go_simp; done) | (go_simp; rfl))
                intro gb194 hg w93 hbox hb
                have n0_ := am_ (vb_ (Kd.V_elderB (pV_ HO_185002.out) gb194 (le_ hg.symm)) hb)
                have n1_ := am_ (vb_ (Kd.V_elderB (pV_ HO_186003.out) gb194 (le_ hg.symm)) hb)
                have n2_ := am_ (nb_ (Kd.N_elderB (pN_ HO193.out) gb194 (le_ hg.symm)) hb)
                have n3_ := am_ (bw_ (g := gb184) (o := .cells #[.int .i64 a0_0, .int .i64 a0_1, .slice A0_2 l0_2.length c0_2] 35 (0, 0)) (pk_ BK184.out) hb)
                have n4_ := am_ (bw_ (g := gb185) (o := .cells #[.int .i64 a1_0, .int .i64 a1_1, .int .i64 a1_2, .slice A1_3 l1_3.length c1_3, .int .i64 a1_4] 30 (0, 0)) (pk_ BK185.out) hb)
                have n5_ := am_ (bw_ (g := gb186) (o := .cells #[.int .i64 0, .int .i64 0, .slice none 0 0] 35 (0, 0)) (pk_ BK186.out) hb)
                have n6_ := am_ (sp_ (pb3_ HB.out GE184.out GE185.out GE186.out) hb)
                have n7_ := am_ (hbox)
                have n8_ := am_ ((by rw [hg]; exact (bz_ (pb3_ HB.out GE184.out GE185.out GE186.out)) : w.heap.size ≤ gb194))
                have n9_ := am_ ((by rw [hg]; exact (bz_ (pb3_ HB.out GE184.out GE185.out GE186.out)) : w.heap.size ≤ gb194))
                have n10_ := am_ ((by rw [hg]; exact Nat.ne_of_lt (blk_lt (g := gb184) (o := .cells #[.int .i64 a0_0, .int .i64 a0_1, .slice A0_2 l0_2.length c0_2] 35 (0, 0)) (pk_ BK184.out)) : gb184 ≠ gb194))
                have n11_ := am_ ((by rw [hg]; exact Nat.ne_of_gt (blk_lt (g := gb184) (o := .cells #[.int .i64 a0_0, .int .i64 a0_1, .slice A0_2 l0_2.length c0_2] 35 (0, 0)) (pk_ BK184.out)) : gb194 ≠ gb184))
                have n12_ := am_ ((by rw [hg]; exact Nat.ne_of_lt (blk_lt (g := gb185) (o := .cells #[.int .i64 a1_0, .int .i64 a1_1, .int .i64 a1_2, .slice A1_3 l1_3.length c1_3, .int .i64 a1_4] 30 (0, 0)) (pk_ BK185.out)) : gb185 ≠ gb194))
                have n13_ := am_ ((by rw [hg]; exact Nat.ne_of_gt (blk_lt (g := gb185) (o := .cells #[.int .i64 a1_0, .int .i64 a1_1, .int .i64 a1_2, .slice A1_3 l1_3.length c1_3, .int .i64 a1_4] 30 (0, 0)) (pk_ BK185.out)) : gb194 ≠ gb185))
                have n14_ := am_ ((by rw [hg]; exact Nat.ne_of_lt (blk_lt (g := gb186) (o := .cells #[.int .i64 0, .int .i64 0, .slice none 0 0] 35 (0, 0)) (pk_ BK186.out)) : gb186 ≠ gb194))
                have n15_ := am_ ((by rw [hg]; exact Nat.ne_of_gt (blk_lt (g := gb186) (o := .cells #[.int .i64 0, .int .i64 0, .slice none 0 0] 35 (0, 0)) (pk_ BK186.out)) : gb194 ≠ gb186))
                clear HO_185002
                clear HO_186003
                clear HO193
                clear BK184
                clear BK185
                clear BK186
                clear HB
                have HO_185002 := n0_
                have HO_186003 := n1_
                have HO193 := n2_
                have BK184 := n3_
                have BK185 := n4_
                have BK186 := n5_
                have HB := n6_
                have BK194 := n7_
                have GW194 := n8_
                have GE194 := n9_
                have NB184_194 := n10_
                have NB194_184 := n11_
                have NB185_194 := n12_
                have NB194_185 := n13_
                have NB186_194 := n14_
                have NB194_186 := n15_
                clear n0_ n1_ n2_ n3_ n4_ n5_ n6_ n7_ n8_ n9_ n10_ n11_ n12_ n13_ n14_ n15_
                clear hb hbox hg
                refine hK.out _ _ ⟨(bc_ BK185.out 0).trans rfl, (bc_ BK185.out 1).trans rfl, (bc_ BK185.out 2).trans rfl, (bc_ BK185.out 3).trans rfl, (bc_ BK185.out 4).trans rfl, (bc_ BK184.out 0).trans rfl, (bc_ BK184.out 1).trans rfl, (bc_ BK184.out 2).trans rfl⟩ (fun hHeld => ?_)
                clear hK K
                refine norm_ (a' := ?_) ?_ ?_
                rotate_left
                ·
                 show Act.put _ (some 9) _ = _
                 simp only [Act.put, lt1_, lt2_, lt3_, i64_w, i32_w]
                 rfl
                exact norm_ (by simp only [putAll, Act.put, lt1_, lt2_, lt3_]) (hCont (.slice Ao92 t191.length co92, gb194) _ ⟨hHeld, (by (with_reducible repeat (first | apply na_ | apply nn_ | apply nd_)); exact nm_ HO193.out (fun _ hk => ⟨hk.1.1, ⟨hk.1.2.1, ⟨hk.1.2.2.1, ⟨hk.1.2.2.2, hk.2⟩⟩⟩⟩)), (by (with_reducible repeat (first | apply va_ | apply vn_ | apply vd_)); exact vm_ HO_185002.out (fun _ hk => ⟨hk.1.1.1, ⟨hk.1.2, ⟨hk.1.1.2.1, ⟨hk.1.1.2.2.1, ⟨hk.1.1.2.2.2, hk.2⟩⟩⟩⟩⟩)), (by (with_reducible repeat (first | apply va_ | apply vn_ | apply vd_)); exact vm_ HO_186003.out (fun _ hk => ⟨hk.1.1.1, ⟨hk.1.2, ⟨hk.1.1.2.1, ⟨hk.1.1.2.2.1, ⟨hk.1.1.2.2.2, hk.2⟩⟩⟩⟩⟩)), (pk_ BK184.out), (pk_ BK185.out), (pk_ BK186.out), (pk_ BK194.out), GW194.out, GE194.out, NB184_194.out, NB194_184.out, NB185_194.out, NB194_185.out, NB186_194.out, NB194_186.out, (pb4_ HB.out GE184.out GE185.out GE186.out GE194.out)⟩)
               ·
                skip
                refine box_step ?hg (N := 9) ?hd (cs := #[.int .i64 0, .int .i64 0, .slice none 0 0]) (t := 35) ?hr ?_; (case hd => rfl); (case hg => rfl); (case hr => first | (go_simp; done) | (go_simp; rfl))
                intro gb194 hg w91 hbox hb
                have n0_ := am_ (vb_ (Kd.V_elderB (pV_ HO_185002.out) gb194 (le_ hg.symm)) hb)
                have n1_ := am_ (vb_ (Kd.V_elderB (pV_ HO_186003.out) gb194 (le_ hg.symm)) hb)
                have n2_ := am_ (bw_ (g := gb184) (o := .cells #[.int .i64 a0_0, .int .i64 a0_1, .slice A0_2 l0_2.length c0_2] 35 (0, 0)) (pk_ BK184.out) hb)
                have n3_ := am_ (bw_ (g := gb185) (o := .cells #[.int .i64 a1_0, .int .i64 a1_1, .int .i64 a1_2, .slice A1_3 l1_3.length c1_3, .int .i64 a1_4] 30 (0, 0)) (pk_ BK185.out) hb)
                have n4_ := am_ (bw_ (g := gb186) (o := .cells #[.int .i64 0, .int .i64 0, .slice none 0 0] 35 (0, 0)) (pk_ BK186.out) hb)
                have n5_ := am_ (sp_ (pb3_ HB.out GE184.out GE185.out GE186.out) hb)
                have n6_ := am_ (hbox)
                have n7_ := am_ ((by rw [hg]; exact (bz_ (pb3_ HB.out GE184.out GE185.out GE186.out)) : w.heap.size ≤ gb194))
                have n8_ := am_ ((by rw [hg]; exact (bz_ (pb3_ HB.out GE184.out GE185.out GE186.out)) : w.heap.size ≤ gb194))
                have n9_ := am_ ((by rw [hg]; exact Nat.ne_of_lt (blk_lt (g := gb184) (o := .cells #[.int .i64 a0_0, .int .i64 a0_1, .slice A0_2 l0_2.length c0_2] 35 (0, 0)) (pk_ BK184.out)) : gb184 ≠ gb194))
                have n10_ := am_ ((by rw [hg]; exact Nat.ne_of_gt (blk_lt (g := gb184) (o := .cells #[.int .i64 a0_0, .int .i64 a0_1, .slice A0_2 l0_2.length c0_2] 35 (0, 0)) (pk_ BK184.out)) : gb194 ≠ gb184))
                have n11_ := am_ ((by rw [hg]; exact Nat.ne_of_lt (blk_lt (g := gb185) (o := .cells #[.int .i64 a1_0, .int .i64 a1_1, .int .i64 a1_2, .slice A1_3 l1_3.length c1_3, .int .i64 a1_4] 30 (0, 0)) (pk_ BK185.out)) : gb185 ≠ gb194))
                have n12_ := am_ ((by rw [hg]; exact Nat.ne_of_gt (blk_lt (g := gb185) (o := .cells #[.int .i64 a1_0, .int .i64 a1_1, .int .i64 a1_2, .slice A1_3 l1_3.length c1_3, .int .i64 a1_4] 30 (0, 0)) (pk_ BK185.out)) : gb194 ≠ gb185))
                have n13_ := am_ ((by rw [hg]; exact Nat.ne_of_lt (blk_lt (g := gb186) (o := .cells #[.int .i64 0, .int .i64 0, .slice none 0 0] 35 (0, 0)) (pk_ BK186.out)) : gb186 ≠ gb194))
                have n14_ := am_ ((by rw [hg]; exact Nat.ne_of_gt (blk_lt (g := gb186) (o := .cells #[.int .i64 0, .int .i64 0, .slice none 0 0] 35 (0, 0)) (pk_ BK186.out)) : gb194 ≠ gb186))
                clear HO_185002
                clear HO_186003
                clear BK184
                clear BK185
                clear BK186
                clear HB
                have HO_185002 := n0_
                have HO_186003 := n1_
                have BK184 := n2_
                have BK185 := n3_
                have BK186 := n4_
                have HB := n5_
                have BK194 := n6_
                have GW194 := n7_
                have GE194 := n8_
                have NB184_194 := n9_
                have NB194_184 := n10_
                have NB185_194 := n11_
                have NB194_185 := n12_
                have NB186_194 := n13_
                have NB194_186 := n14_
                clear n0_ n1_ n2_ n3_ n4_ n5_ n6_ n7_ n8_ n9_ n10_ n11_ n12_ n13_ n14_
                clear hb hbox hg
                refine hK.out _ _ ⟨(bc_ BK185.out 0).trans rfl, (bc_ BK185.out 1).trans rfl, (bc_ BK185.out 2).trans rfl, (bc_ BK185.out 3).trans rfl, (bc_ BK185.out 4).trans rfl, (bc_ BK184.out 0).trans rfl, (bc_ BK184.out 1).trans rfl, (bc_ BK184.out 2).trans rfl⟩ (fun hHeld => ?_)
                clear hK K
                refine norm_ (a' := ?_) ?_ ?_
                rotate_left
                ·
                 show Act.put _ (some 9) _ = _
                 simp only [Act.put, lt1_, lt2_, lt3_, i64_w, i32_w]
                 rfl
                refine one_ (i := 6) (N := some 59) #[true, true, true, true, true, true, true, false, true, false] rfl rfl (one_of HT_.out (by kernel_rfl)) (by decide) (fun K hK => ?_)
                refine goes_ Try.func29 (by kernel_rfl) rfl #[.slice A0_2 l0_2.length c0_2] (by rfl) rfl rfl au_ ?_
                with_reducible refine (replica_copied.calls kj2 (fun k_ => ((((P0_2_ k_ ∨ P1_3_ k_) ∨ w.heap.size ≤ k_) ∧ (k_ ≠ gb184 ∧ (k_ ≠ gb185 ∧ k_ ≠ gb186))) ∧ k_ ≠ gb194)) _ _ l0_2 t191 _ ?side1 A43.out).mono ?_
                (case side1 => exact HO_185002.out)
                rintro e w92 ⟨v192, rfl, ho0, hb⟩
                refine ⟨_, rfl, ?_⟩
                have n0_ := am_ (Kd.V_elder' (pV_ HO_185002.out) (Kd.N_base ho0) hb)
                have n1_ := am_ (Kd.V_elder' (pV_ HO_186003.out) (Kd.N_base ho0) hb)
                have n2_ := am_ (nl_ (nm_ (ok' := fun k_ => ((P0_2_ k_ ∨ P1_3_ k_) ∨ w.heap.size ≤ k_) ∧ k_ ≠ gb184 ∧ k_ ≠ gb185 ∧ k_ ≠ gb186 ∧ k_ ≠ gb194) ho0 (fun k_ hk_ => ⟨Or.elim hk_ (fun hs_ => hs_.1.1) (fun hn_ => (.inr (Nat.le_trans (bz_ (pb4_ HB.out GE184.out GE185.out GE186.out GE194.out)) hn_))), Or.elim hk_ (fun hs_ => hs_.1.2.1) (fun hn_ => (fb_ (g := gb184) (o := .cells #[.int .i64 a0_0, .int .i64 a0_1, .slice A0_2 l0_2.length c0_2] 35 (0, 0)) (pk_ BK184.out) k_ hn_)), Or.elim hk_ (fun hs_ => hs_.1.2.2.1) (fun hn_ => (fb_ (g := gb185) (o := .cells #[.int .i64 a1_0, .int .i64 a1_1, .int .i64 a1_2, .slice A1_3 l1_3.length c1_3, .int .i64 a1_4] 30 (0, 0)) (pk_ BK185.out) k_ hn_)), Or.elim hk_ (fun hs_ => hs_.1.2.2.2) (fun hn_ => (fb_ (g := gb186) (o := .cells #[.int .i64 0, .int .i64 0, .slice none 0 0] 35 (0, 0)) (pk_ BK186.out) k_ hn_)), Or.elim hk_ (fun hs_ => hs_.2) (fun hn_ => (fb_ (g := gb194) (o := .cells #[.int .i64 0, .int .i64 0, .slice none 0 0] 35 (0, 0)) (pk_ BK194.out) k_ hn_))⟩)) (bz_ (pb4_ HB.out GE184.out GE185.out GE186.out GE194.out)))
                have n3_ := am_ (bw_ (g := gb184) (o := .cells #[.int .i64 a0_0, .int .i64 a0_1, .slice A0_2 l0_2.length c0_2] 35 (0, 0)) (pk_ BK184.out) hb)
                have n4_ := am_ (bw_ (g := gb185) (o := .cells #[.int .i64 a1_0, .int .i64 a1_1, .int .i64 a1_2, .slice A1_3 l1_3.length c1_3, .int .i64 a1_4] 30 (0, 0)) (pk_ BK185.out) hb)
                have n5_ := am_ (bw_ (g := gb186) (o := .cells #[.int .i64 0, .int .i64 0, .slice none 0 0] 35 (0, 0)) (pk_ BK186.out) hb)
                have n6_ := am_ (bw_ (g := gb194) (o := .cells #[.int .i64 0, .int .i64 0, .slice none 0 0] 35 (0, 0)) (pk_ BK194.out) hb)
                have n7_ := am_ (sp_ (pb4_ HB.out GE184.out GE185.out GE186.out GE194.out) hb)
                clear HO_185002
                clear HO_186003
                clear BK184
                clear BK185
                clear BK186
                clear BK194
                clear HB
                have HO_185002 := n0_
                have HO_186003 := n1_
                have HO193 := n2_
                have BK184 := n3_
                have BK185 := n4_
                have BK186 := n5_
                have BK194 := n6_
                have HB := n7_
                clear n0_ n1_ n2_ n3_ n4_ n5_ n6_ n7_
                (try clear hb)
                (try clear hb2)
                (try clear hk)
                (try clear hi)
                (try clear ho0)
                obtain ⟨Ao93, co93, eo93⟩ := Kd.N_slice HO193.out
                (first | subst eo93 | (injection eo93 with f1_ f2_ f3_; have f4_ := f1_.symm; have f5_ := f3_.symm; clear f1_ f2_ f3_; subst f4_; subst f5_))
                refine hK.out _ _ ⟨(bc_ BK185.out 0).trans rfl, (bc_ BK185.out 1).trans rfl, (bc_ BK185.out 2).trans rfl, (bc_ BK185.out 3).trans rfl, (bc_ BK185.out 4).trans rfl, (bc_ BK184.out 0).trans rfl, (bc_ BK184.out 1).trans rfl, (bc_ BK184.out 2).trans rfl⟩ (fun hHeld => ?_)
                clear hK K
                refine norm_ (a' := ?_) ?_ ?_
                rotate_left
                ·
                 show Act.put _ (some 59) _ = _
                 simp only [Act.put, lt1_, lt2_, lt3_, i64_w, i32_w]
                 rfl
                refine pure_ (i := 7) (N := some 60) (v := ?_) (a' := ?_) #[true, true, true, true, true, true, true, true, true, false] rfl rfl (any_of HT_.out (by kernel_rfl)) (fun _ _ _ h => h) (Or.inl ⟨by rfl, ?_⟩) ?_ ?_
                rotate_left
                ·
                 intro w'
                 go_simp
                 with_reducible rfl
                rotate_left
                ·
                 simp only [Act.put, lt1_, lt2_, lt3_, i64_w, i32_w]
                 rfl
                exact norm_ (by simp only [putAll, Act.put, lt1_, lt2_, lt3_]) (hCont (.slice Ao93 t191.length co93, gb194) _ ⟨hHeld, (pN_ HO193.out), (by (with_reducible repeat (first | apply va_ | apply vn_ | apply vd_)); exact vm_ HO_185002.out (fun _ hk => ⟨hk.1.1.1, ⟨hk.2, ⟨hk.1.1.2.1, ⟨hk.1.1.2.2.1, ⟨hk.1.1.2.2.2, hk.1.2⟩⟩⟩⟩⟩)), (by (with_reducible repeat (first | apply va_ | apply vn_ | apply vd_)); exact vm_ HO_186003.out (fun _ hk => ⟨hk.1.1.1, ⟨hk.2, ⟨hk.1.1.2.1, ⟨hk.1.1.2.2.1, ⟨hk.1.1.2.2.2, hk.1.2⟩⟩⟩⟩⟩)), (pk_ BK184.out), (pk_ BK185.out), (pk_ BK186.out), (pk_ BK194.out), GW194.out, GE194.out, NB184_194.out, NB194_184.out, NB185_194.out, NB194_185.out, NB186_194.out, NB194_186.out, (pb4_ HB.out GE184.out GE185.out GE186.out GE194.out)⟩)
              rintro ⟨v192, gb194⟩ w94 ⟨hS_, h0_, h1_, h2_, h3_, h4_, h5_, h6_, h7_, h8_, h9_, h10_, h11_, h12_, h13_, h14_, h15_⟩
              have n0_ : Aside0 (Kd.N k87 87 w94 w.heap.size (fun k_ => ((P0_2_ k_ ∨ P1_3_ k_) ∨ w.heap.size ≤ k_) ∧ k_ ≠ gb184 ∧ k_ ≠ gb185 ∧ k_ ≠ gb186 ∧ k_ ≠ gb194) v192 t191) := ⟨h0_⟩
              have n1_ : Aside0 (Kd.V k87 87 w94 w.heap.size (fun k_ => ((P0_2_ k_ ∨ P1_3_ k_) ∨ w.heap.size ≤ k_) ∧ some k_ ≠ (v192 : Value).ownBlock ∧ k_ ≠ gb184 ∧ k_ ≠ gb185 ∧ k_ ≠ gb186 ∧ k_ ≠ gb194) (.slice A0_2 l0_2.length c0_2) l0_2) := ⟨h1_⟩
              have n2_ : Aside0 (Kd.V k87 87 w94 w.heap.size (fun k_ => ((P0_2_ k_ ∨ P1_3_ k_) ∨ w.heap.size ≤ k_) ∧ some k_ ≠ (v192 : Value).ownBlock ∧ k_ ≠ gb184 ∧ k_ ≠ gb185 ∧ k_ ≠ gb186 ∧ k_ ≠ gb194) (.slice A1_3 l1_3.length c1_3) l1_3) := ⟨h2_⟩
              have n3_ : Aside0 (w94.heap[gb184]? = some (.cells #[.int .i64 a0_0, .int .i64 a0_1, .slice A0_2 l0_2.length c0_2] 35 (0, 0))) := ⟨h3_⟩
              have n4_ : Aside0 (w94.heap[gb185]? = some (.cells #[.int .i64 a1_0, .int .i64 a1_1, .int .i64 a1_2, .slice A1_3 l1_3.length c1_3, .int .i64 a1_4] 30 (0, 0))) := ⟨h4_⟩
              have n5_ : Aside0 (w94.heap[gb186]? = some (.cells #[.int .i64 0, .int .i64 0, .slice none 0 0] 35 (0, 0))) := ⟨h5_⟩
              have n6_ : Aside0 (w94.heap[gb194]? = some (.cells #[.int .i64 0, .int .i64 0, .slice none 0 0] 35 (0, 0))) := ⟨h6_⟩
              have n7_ : Aside0 (w.heap.size ≤ gb194) := ⟨h7_⟩
              have n8_ : Aside0 (w.heap.size ≤ gb194) := ⟨h8_⟩
              have n9_ : Aside0 (gb184 ≠ gb194) := ⟨h9_⟩
              have n10_ : Aside0 (gb194 ≠ gb184) := ⟨h10_⟩
              have n11_ : Aside0 (gb185 ≠ gb194) := ⟨h11_⟩
              have n12_ : Aside0 (gb194 ≠ gb185) := ⟨h12_⟩
              have n13_ : Aside0 (gb186 ≠ gb194) := ⟨h13_⟩
              have n14_ : Aside0 (gb194 ≠ gb186) := ⟨h14_⟩
              have n15_ : Aside0 (Below w.heap.size w w94) := ⟨h15_⟩
              clear HO_185002
              clear HO_186003
              clear BK184
              clear BK185
              clear BK186
              clear HB
              clear h0_ h1_ h2_ h3_ h4_ h5_ h6_ h7_ h8_ h9_ h10_ h11_ h12_ h13_ h14_ h15_
              have HO193 := n0_
              have HO_185002 := n1_
              have HO_186003 := n2_
              have BK184 := n3_
              have BK185 := n4_
              have BK186 := n5_
              have BK194 := n6_
              have GW194 := n7_
              have GE194 := n8_
              have NB184_194 := n9_
              have NB194_184 := n10_
              have NB185_194 := n11_
              have NB194_185 := n12_
              have NB186_194 := n13_
              have NB194_186 := n14_
              have HB := n15_
              clear n0_ n1_ n2_ n3_ n4_ n5_ n6_ n7_ n8_ n9_ n10_ n11_ n12_ n13_ n14_ n15_
              have hHeld : w94.cell? ⟨gb185, 0, none⟩ = some (.int .i64 a1_0) ∧ w94.cell? ⟨gb185, 1, none⟩ = some (.int .i64 a1_1) ∧ w94.cell? ⟨gb185, 2, none⟩ = some (.int .i64 a1_2) ∧ w94.cell? ⟨gb185, 3, none⟩ = some (.slice A1_3 l1_3.length c1_3) ∧ w94.cell? ⟨gb185, 4, none⟩ = some (.int .i64 a1_4) ∧ w94.cell? ⟨gb184, 0, none⟩ = some (.int .i64 a0_0) ∧ w94.cell? ⟨gb184, 1, none⟩ = some (.int .i64 a0_1) ∧ w94.cell? ⟨gb184, 2, none⟩ = some (.slice A0_2 l0_2.length c0_2) := hS_
              obtain ⟨Ao95, co95, eo95⟩ := Kd.N_slice HO193.out
              (first | subst eo95 | (injection eo95 with f1_ f2_ f3_; have f4_ := f1_.symm; have f5_ := f3_.symm; clear f1_ f2_ f3_; subst f4_; subst f5_))
              refine norm_ (a' := ?_) ?_ ?_
              rotate_left
              ·
               simp only [putAll, Act.put, lt1_, lt2_, lt3_]
               rfl
              refine one_ (i := 9) (N := none) #[true, true, true, true, true, true, true, true, true, true] rfl rfl (one_of HT_.out (by kernel_rfl)) (by decide) (fun K hK => ?_)
              have hs96 : w94.cell? ⟨gb194, 0, none⟩ = some (.int .i64 0) := (bc_ BK194.out 0).trans rfl
              have hfs96 := bf_ BK194.out 0
              have hns96_0 := NB184_194.out
              have hns96_1 := NB185_194.out
              have hns96_2 := NB186_194.out
              have hms96_0 := NB194_184.out
              have hms96_1 := NB194_185.out
              have hms96_2 := NB194_186.out
              have hs97 : w94.cell? ⟨gb194, 1, none⟩ = some (.int .i64 0) := (bc_ BK194.out 1).trans rfl
              have hfs97 := bf_ BK194.out 1
              have hns97_0 := NB184_194.out
              have hns97_1 := NB185_194.out
              have hns97_2 := NB186_194.out
              have hms97_0 := NB194_184.out
              have hms97_1 := NB194_185.out
              have hms97_2 := NB194_186.out
              have hs98 : w94.cell? ⟨gb194, 2, none⟩ = some (.slice none 0 0) := (bc_ BK194.out 2).trans rfl
              have hfs98 := bf_ BK194.out 2
              have hns98_0 := NB184_194.out
              have hns98_1 := NB185_194.out
              have hns98_2 := NB186_194.out
              have hms98_0 := NB194_184.out
              have hms98_1 := NB194_185.out
              have hms98_2 := NB194_186.out
              refine skip_ (w1 := ?_) (by rfl) rfl ?_ ?_
              rotate_left
              ·
               go_simp
               rfl
              refine hK.out _ _ ⟨((cell_far (p := ⟨gb194, _, none⟩) NB185_194.out _).trans (((cell_far (p := ⟨gb194, _, none⟩) NB185_194.out _).trans (((cell_far (p := ⟨gb194, _, none⟩) NB185_194.out _).trans (hHeld.1)))))), ((cell_far (p := ⟨gb194, _, none⟩) NB185_194.out _).trans (((cell_far (p := ⟨gb194, _, none⟩) NB185_194.out _).trans (((cell_far (p := ⟨gb194, _, none⟩) NB185_194.out _).trans (hHeld.2.1)))))), ((cell_far (p := ⟨gb194, _, none⟩) NB185_194.out _).trans (((cell_far (p := ⟨gb194, _, none⟩) NB185_194.out _).trans (((cell_far (p := ⟨gb194, _, none⟩) NB185_194.out _).trans (hHeld.2.2.1)))))), ((cell_far (p := ⟨gb194, _, none⟩) NB185_194.out _).trans (((cell_far (p := ⟨gb194, _, none⟩) NB185_194.out _).trans (((cell_far (p := ⟨gb194, _, none⟩) NB185_194.out _).trans (hHeld.2.2.2.1)))))), ((cell_far (p := ⟨gb194, _, none⟩) NB185_194.out _).trans (((cell_far (p := ⟨gb194, _, none⟩) NB185_194.out _).trans (((cell_far (p := ⟨gb194, _, none⟩) NB185_194.out _).trans (hHeld.2.2.2.2.1)))))), ((cell_far (p := ⟨gb194, _, none⟩) NB184_194.out _).trans (((cell_far (p := ⟨gb194, _, none⟩) NB184_194.out _).trans (((cell_far (p := ⟨gb194, _, none⟩) NB184_194.out _).trans (hHeld.2.2.2.2.2.1)))))), ((cell_far (p := ⟨gb194, _, none⟩) NB184_194.out _).trans (((cell_far (p := ⟨gb194, _, none⟩) NB184_194.out _).trans (((cell_far (p := ⟨gb194, _, none⟩) NB184_194.out _).trans (hHeld.2.2.2.2.2.2.1)))))), ((cell_far (p := ⟨gb194, _, none⟩) NB184_194.out _).trans (((cell_far (p := ⟨gb194, _, none⟩) NB184_194.out _).trans (((cell_far (p := ⟨gb194, _, none⟩) NB184_194.out _).trans (hHeld.2.2.2.2.2.2.2))))))⟩ (fun hHeld => ?_)
              clear hK K
              refine done_ (done_of HT_.out (by kernel_rfl)) ?_
              have hnb99 := NB184_194.out
              have hnc99 := NB194_184.out
              have hcz100_0 : w94.cell? ⟨gb184, 0, none⟩ = some (.int .i64 a0_0) := (bc_ BK184.out 0).trans rfl
              have hcz100_1 : w94.cell? ⟨gb184, 1, none⟩ = some (.int .i64 a0_1) := (bc_ BK184.out 1).trans rfl
              have hcz100_2 : w94.cell? ⟨gb184, 2, none⟩ = some (.slice A0_2 l0_2.length c0_2) := (bc_ BK184.out 2).trans rfl
              have hfz100_0 := bf_ BK184.out 0
              have hfz100_1 := bf_ BK184.out 1
              have hfz100_2 := bf_ BK184.out 2
              try go_wp2
              have n0_ : Aside0 (Kd.V k87 87 (((w94.setCell ⟨gb194, 0, none⟩ (.int .i64 a1_0)).setCell ⟨gb194, 1, none⟩ (.int .i64 a0_1)).setCell ⟨gb194, 2, none⟩ (.slice Ao95 t191.length co95)) w.heap.size (fun k_ => ((P0_2_ k_ ∨ P1_3_ k_) ∨ w.heap.size ≤ k_) ∧ some k_ ≠ (.slice Ao95 t191.length co95 : Value).ownBlock ∧ k_ ≠ gb184 ∧ k_ ≠ gb185 ∧ k_ ≠ gb186 ∧ k_ ≠ gb194) (.slice A0_2 l0_2.length c0_2) l0_2) := ⟨by (with_reducible repeat (first | apply va_ | apply vn_ | apply vd_)); exact vm_ (Kd.V_far (p := ⟨gb194, 2, none⟩) (Kd.V_far (p := ⟨gb194, 1, none⟩) (Kd.V_far (p := ⟨gb194, 0, none⟩) (vm_ HO_185002.out (fun k_ hk => (⟨hk, hk.2.2.2.2.2⟩ : _ ∧ k_ ≠ gb194))) (fun _ hk => hk.2) (.int .i64 a1_0)) (fun _ hk => hk.2) (.int .i64 a0_1)) (fun _ hk => hk.2) (.slice Ao95 t191.length co95)) (fun _ hk => ⟨hk.1.1, ⟨hk.1.2.1, ⟨hk.1.2.2.1, ⟨hk.1.2.2.2.1, ⟨hk.1.2.2.2.2.1, hk.1.2.2.2.2.2⟩⟩⟩⟩⟩)⟩
              have n1_ : Aside0 (Kd.V k87 87 (((w94.setCell ⟨gb194, 0, none⟩ (.int .i64 a1_0)).setCell ⟨gb194, 1, none⟩ (.int .i64 a0_1)).setCell ⟨gb194, 2, none⟩ (.slice Ao95 t191.length co95)) w.heap.size (fun k_ => ((P0_2_ k_ ∨ P1_3_ k_) ∨ w.heap.size ≤ k_) ∧ some k_ ≠ (.slice Ao95 t191.length co95 : Value).ownBlock ∧ k_ ≠ gb184 ∧ k_ ≠ gb185 ∧ k_ ≠ gb186 ∧ k_ ≠ gb194) (.slice A1_3 l1_3.length c1_3) l1_3) := ⟨by (with_reducible repeat (first | apply va_ | apply vn_ | apply vd_)); exact vm_ (Kd.V_far (p := ⟨gb194, 2, none⟩) (Kd.V_far (p := ⟨gb194, 1, none⟩) (Kd.V_far (p := ⟨gb194, 0, none⟩) (vm_ HO_186003.out (fun k_ hk => (⟨hk, hk.2.2.2.2.2⟩ : _ ∧ k_ ≠ gb194))) (fun _ hk => hk.2) (.int .i64 a1_0)) (fun _ hk => hk.2) (.int .i64 a0_1)) (fun _ hk => hk.2) (.slice Ao95 t191.length co95)) (fun _ hk => ⟨hk.1.1, ⟨hk.1.2.1, ⟨hk.1.2.2.1, ⟨hk.1.2.2.2.1, ⟨hk.1.2.2.2.2.1, hk.1.2.2.2.2.2⟩⟩⟩⟩⟩)⟩
              have n2_ : Aside0 (Kd.N k87 87 (((w94.setCell ⟨gb194, 0, none⟩ (.int .i64 a1_0)).setCell ⟨gb194, 1, none⟩ (.int .i64 a0_1)).setCell ⟨gb194, 2, none⟩ (.slice Ao95 t191.length co95)) w.heap.size (fun k_ => ((P0_2_ k_ ∨ P1_3_ k_) ∨ w.heap.size ≤ k_) ∧ k_ ≠ gb184 ∧ k_ ≠ gb185 ∧ k_ ≠ gb186 ∧ k_ ≠ gb194) (.slice Ao95 t191.length co95) t191) := ⟨by (with_reducible repeat (first | apply na_ | apply nn_ | apply nd_)); exact nm_ (nf_ (p := ⟨gb194, 2, none⟩) (nf_ (p := ⟨gb194, 1, none⟩) (nf_ (p := ⟨gb194, 0, none⟩) (nm_ HO193.out (fun k_ hk => (⟨hk, hk.2.2.2.2⟩ : _ ∧ k_ ≠ gb194))) (fun _ hk => hk.2) (.int .i64 a1_0)) (fun _ hk => hk.2) (.int .i64 a0_1)) (fun _ hk => hk.2) (.slice Ao95 t191.length co95)) (fun _ hk => ⟨hk.1.1, ⟨hk.1.2.1, ⟨hk.1.2.2.1, ⟨hk.1.2.2.2.1, hk.1.2.2.2.2⟩⟩⟩⟩)⟩
              have n3_ : Aside0 ((((w94.setCell ⟨gb194, 0, none⟩ (.int .i64 a1_0)).setCell ⟨gb194, 1, none⟩ (.int .i64 a0_1)).setCell ⟨gb194, 2, none⟩ (.slice Ao95 t191.length co95)).heap[gb184]? = some (.cells #[.int .i64 a0_0, .int .i64 a0_1, .slice A0_2 l0_2.length c0_2] 35 (0, 0))) := ⟨by (with_reducible repeat (first | refine bn_ ?_ _ | refine bd_ ?_ | refine ba_ ?_ _)); refine blk_far ?_ NB184_194.out _; (with_reducible repeat (first | refine bn_ ?_ _ | refine bd_ ?_ | refine ba_ ?_ _)); refine blk_far ?_ NB184_194.out _; (with_reducible repeat (first | refine bn_ ?_ _ | refine bd_ ?_ | refine ba_ ?_ _)); refine blk_far ?_ NB184_194.out _; (with_reducible repeat (first | refine bn_ ?_ _ | refine bd_ ?_ | refine ba_ ?_ _)); exact BK184.out⟩
              have n4_ : Aside0 ((((w94.setCell ⟨gb194, 0, none⟩ (.int .i64 a1_0)).setCell ⟨gb194, 1, none⟩ (.int .i64 a0_1)).setCell ⟨gb194, 2, none⟩ (.slice Ao95 t191.length co95)).heap[gb185]? = some (.cells #[.int .i64 a1_0, .int .i64 a1_1, .int .i64 a1_2, .slice A1_3 l1_3.length c1_3, .int .i64 a1_4] 30 (0, 0))) := ⟨by (with_reducible repeat (first | refine bn_ ?_ _ | refine bd_ ?_ | refine ba_ ?_ _)); refine blk_far ?_ NB185_194.out _; (with_reducible repeat (first | refine bn_ ?_ _ | refine bd_ ?_ | refine ba_ ?_ _)); refine blk_far ?_ NB185_194.out _; (with_reducible repeat (first | refine bn_ ?_ _ | refine bd_ ?_ | refine ba_ ?_ _)); refine blk_far ?_ NB185_194.out _; (with_reducible repeat (first | refine bn_ ?_ _ | refine bd_ ?_ | refine ba_ ?_ _)); exact BK185.out⟩
              have n5_ : Aside0 ((((w94.setCell ⟨gb194, 0, none⟩ (.int .i64 a1_0)).setCell ⟨gb194, 1, none⟩ (.int .i64 a0_1)).setCell ⟨gb194, 2, none⟩ (.slice Ao95 t191.length co95)).heap[gb186]? = some (.cells #[.int .i64 0, .int .i64 0, .slice none 0 0] 35 (0, 0))) := ⟨by (with_reducible repeat (first | refine bn_ ?_ _ | refine bd_ ?_ | refine ba_ ?_ _)); refine blk_far ?_ NB186_194.out _; (with_reducible repeat (first | refine bn_ ?_ _ | refine bd_ ?_ | refine ba_ ?_ _)); refine blk_far ?_ NB186_194.out _; (with_reducible repeat (first | refine bn_ ?_ _ | refine bd_ ?_ | refine ba_ ?_ _)); refine blk_far ?_ NB186_194.out _; (with_reducible repeat (first | refine bn_ ?_ _ | refine bd_ ?_ | refine ba_ ?_ _)); exact BK186.out⟩
              have n6_ : Aside0 ((((w94.setCell ⟨gb194, 0, none⟩ (.int .i64 a1_0)).setCell ⟨gb194, 1, none⟩ (.int .i64 a0_1)).setCell ⟨gb194, 2, none⟩ (.slice Ao95 t191.length co95)).heap[gb194]? = some (.cells #[.int .i64 a1_0, .int .i64 a0_1, .slice Ao95 t191.length co95] 35 (0, 0))) := ⟨by (with_reducible repeat (first | refine bn_ ?_ _ | refine bd_ ?_ | refine ba_ ?_ _)); refine blk_put (cs := #[.int .i64 a1_0, .int .i64 a0_1, .slice none 0 0]) ?_ 2 _ rfl; (with_reducible repeat (first | refine bn_ ?_ _ | refine bd_ ?_ | refine ba_ ?_ _)); refine blk_put (cs := #[.int .i64 a1_0, .int .i64 0, .slice none 0 0]) ?_ 1 _ rfl; (with_reducible repeat (first | refine bn_ ?_ _ | refine bd_ ?_ | refine ba_ ?_ _)); refine blk_put (cs := #[.int .i64 0, .int .i64 0, .slice none 0 0]) ?_ 0 _ rfl; (with_reducible repeat (first | refine bn_ ?_ _ | refine bd_ ?_ | refine ba_ ?_ _)); exact BK194.out⟩
              have n7_ : Aside0 (Below w.heap.size w (((w94.setCell ⟨gb194, 0, none⟩ (.int .i64 a1_0)).setCell ⟨gb194, 1, none⟩ (.int .i64 a0_1)).setCell ⟨gb194, 2, none⟩ (.slice Ao95 t191.length co95))) := ⟨pb4_ HB.out GE184.out GE185.out GE186.out GE194.out⟩
              (try clear HO_185002)
              (try clear HO_186003)
              (try clear HO193)
              (try clear BK184)
              (try clear BK185)
              (try clear BK186)
              (try clear BK194)
              (try clear HB)
              generalize (((w94.setCell ⟨gb194, 0, none⟩ (.int .i64 a1_0)).setCell ⟨gb194, 1, none⟩ (.int .i64 a0_1)).setCell ⟨gb194, 2, none⟩ (.slice Ao95 t191.length co95)) = w101 at n0_ n1_ n2_ n3_ n4_ n5_ n6_ n7_ ⊢
              have HO_185002 := n0_
              have HO_186003 := n1_
              have HO193 := n2_
              have BK184 := n3_
              have BK185 := n4_
              have BK186 := n5_
              have BK194 := n6_
              have HB := n7_
              clear n0_ n1_ n2_ n3_ n4_ n5_ n6_ n7_
              have n0_ := am_ (vd_ HO_185002.out)
              have n1_ := am_ (vd_ HO_186003.out)
              have n2_ := am_ (nd_ HO193.out)
              have n3_ := am_ (bd_ BK184.out)
              have n4_ := am_ (bd_ BK185.out)
              have n5_ := am_ (bd_ BK186.out)
              have n6_ := am_ (bd_ BK194.out)
              have n7_ := am_ (b1_ HB.out)
              clear HO_185002
              clear HO_186003
              clear HO193
              clear BK184
              clear BK185
              clear BK186
              clear BK194
              clear HB
              have HO_185002 := n0_
              have HO_186003 := n1_
              have HO193 := n2_
              have BK184 := n3_
              have BK185 := n4_
              have BK186 := n5_
              have BK194 := n6_
              have HB := n7_
              clear n0_ n1_ n2_ n3_ n4_ n5_ n6_ n7_
              have q103 : (t190 : Int) ≤ ((t191.length : Int) : Int) := ot_ (by first | (with_reducible assumption) | assumption)
              obtain ⟨i0103, hi0103, _, hsz103, _⟩ := info_parts info87
              have hcut103 := cut_to (P := Try.prog) 28 87 .i64 Try.underlying28 hi0103 Ao95 t191.length co95 t190 (ot_ (by first | (with_reducible assumption) | assumption)) q103 (Kd.N_reads' HO193.out).2.1
              have hr103 := Kd.N_take (m := (t190 : Int).toNat) HO193.out (by omega)
              have hy103 : y195.length = (t190 : Int).toNat := (by rw [Ny195.out, List.length_take]; omega)
              rw [← Ny195.out] at hr103
              rw [← hy103] at hr103 hcut103
              clear hy103 hi0103 hsz103 HO193
              have HO197 := am_ hr103
              clear hr103
              replace q103 := eq_true q103
              have q104 : ((ji72) : Int) ≤ ((l1_3.length : Int) : Int) := ot_ (by first | (with_reducible assumption) | assumption)
              obtain ⟨i0104, hi0104, _, hsz104, _⟩ := info_parts info87
              have hroom104 : l1_3.length ≤ c1_3 := (Kd.V_reads' HO_186003.out).2.1
              have hC104 : Kd.F k87 _ _ A1_3 l1_3.length l1_3 := (Kd.V_at (base := w.heap.size) HO_186003.out).2.2
              have q0104 : (0 : Int) ≤ ((ji72) : Int) := ot_ (by first | (with_reducible assumption) | assumption)
              have hcut104 := cut_from (P := Try.prog) 28 87 .i64 Try.underlying28 hi0104 2 hsz104 A1_3 l1_3.length c1_3 (ji72) q0104 q104
              have hr104 := Kd.F_cut (m := ((ji72) : Int).toNat) (c := c1_3) hC104 (by omega) hroom104
              obtain ⟨A104, hA104⟩ : ∃ A1, A1 = (if c1_3 = ((ji72) : Int).toNat then A1_3 else (A1_3 : Option Addr).map (·.add (((ji72) : Int).toNat * 2))) := ⟨_, rfl⟩
              obtain ⟨c104, hc104⟩ : ∃ c1, c1 = c1_3 - ((ji72) : Int).toNat := ⟨_, rfl⟩
              have hy104 : y198.length = l1_3.length - ((ji72) : Int).toNat := (by rw [Ny198.out, List.length_drop] <;> omega)
              rw [show (l1_3).drop ((ji72) : Int).toNat = y198 from Ny198.out.symm] at hr104
              replace hr104 : Kd.F k87 _ _ A104 y198.length y198 := (by rw [hA104]; exact hr104)
              rw [← hy104, ← hA104, ← hc104] at hcut104
              have HO202 := am_ (show Kd.V k87 87 _ w.heap.size _ (.slice A104 y198.length c104) y198 from Kd.V_mk (by rw [hy104, hc104]; exact Nat.sub_le_sub_right hroom104 _) hr104)
              replace HO202 := am_ (vm_ (ok' := fun k_ => ((P0_2_ k_ ∨ P1_3_ k_) ∨ w.heap.size ≤ k_) ∧ some k_ ≠ (.slice Ao95 y195.length co95 : Value).ownBlock ∧ k_ ≠ gb184 ∧ k_ ≠ gb185 ∧ k_ ≠ gb186 ∧ k_ ≠ gb194) HO202.out (fun k_ hk_ => ⟨hk_.1, by have e_ := hk_.2.1; cases Ao95 <;> exact e_, hk_.2.2⟩))
              have HC202 := am_ (show y198.length ≤ c104 from by rw [hy104, hc104]; exact Nat.sub_le_sub_right hroom104 _)
              clear hr104 hC104 hroom104 hi0104 hsz104 hc104
              have KY104 := am_ hy104
              have KA104 := am_ hA104
              clear hy104 hA104
              replace q104 := eq_true q104
              refine start_ (n := 15) (S := fun w' => w'.cell? ⟨gb194, 0, none⟩ = some (.int .i64 a1_0) ∧ w'.cell? ⟨gb194, 1, none⟩ = some (.int .i64 a0_1) ∧ w'.cell? ⟨gb194, 2, none⟩ = some (.slice Ao95 t191.length co95) ∧ w'.cell? ⟨gb185, 0, none⟩ = some (.int .i64 a1_0) ∧ w'.cell? ⟨gb185, 1, none⟩ = some (.int .i64 a1_1) ∧ w'.cell? ⟨gb185, 2, none⟩ = some (.int .i64 a1_2) ∧ w'.cell? ⟨gb185, 3, none⟩ = some (.slice A1_3 l1_3.length c1_3) ∧ w'.cell? ⟨gb185, 4, none⟩ = some (.int .i64 a1_4)) (ds := [14]) #[false, false, false, false, false, false, false, false, false, false, false, false, false, false, false] (by kernel_rfl) rfl rfl ⟨(bc_ BK194.out 0).trans rfl, (bc_ BK194.out 1).trans rfl, (bc_ BK194.out 2).trans rfl, (bc_ BK185.out 0).trans rfl, (bc_ BK185.out 1).trans rfl, (bc_ BK185.out 2).trans rfl, (bc_ BK185.out 3).trans rfl, (bc_ BK185.out 4).trans rfl⟩ (fun hHeld => ?_); refine with_tabW replica_Accept.tab13 replica_Accept.bits13 (fun HT_ HW_ => ?_)
              generalize w101.drew = w102 at HO_185002 HO_186003 BK184 BK185 BK186 BK194 HB HO197 HO202 hHeld ⊢
              refine pure_ (i := 0) (N := some 69) (v := ?_) (a' := ?_) #[true, false, false, false, false, false, false, false, false, false, false, false, false, false, false] rfl rfl (any_of HT_.out (by kernel_rfl)) (fun _ _ _ h => h) (Or.inl ⟨by rfl, ?_⟩) ?_ ?_
              rotate_left
              ·
               intro w'
               go_simp
               with_reducible rfl
              rotate_left
              ·
               simp only [Act.put, lt1_, lt2_, lt3_, i64_w, i32_w]
               rfl
              refine pure_ (i := 2) (N := some 71) (v := ?_) (a' := ?_) #[true, false, true, false, false, false, false, false, false, false, false, false, false, false, false] rfl rfl (any_of HT_.out (by kernel_rfl)) (fun _ _ _ h => h) (Or.inl ⟨by rfl, ?_⟩) ?_ ?_
              rotate_left
              ·
               intro w'
               go_simp
               with_reducible rfl
              rotate_left
              ·
               simp only [Act.put, lt1_, lt2_, lt3_, i64_w, i32_w]
               rfl
              refine pure_ (i := 4) (N := some 73) (v := ?_) (a' := ?_) #[true, false, true, false, true, false, false, false, false, false, false, false, false, false, false] rfl rfl (any_of HT_.out (by kernel_rfl)) (fun _ _ _ h => h) (Or.inl ⟨by rfl, ?_⟩) ?_ ?_
              rotate_left
              ·
               intro w'
               go_simp
               with_reducible rfl
              rotate_left
              ·
               simp only [Act.put, lt1_, lt2_, lt3_, i64_w, i32_w]
               rfl
              refine pure_ (i := 6) (N := some 75) (v := ?_) (a' := ?_) #[true, false, true, false, true, false, true, false, false, false, false, false, false, false, false] rfl rfl (any_of HT_.out (by kernel_rfl)) (fun _ _ _ h => h) (Or.inl ⟨by rfl, ?_⟩) ?_ ?_
              rotate_left
              ·
               intro w'
               go_simp
               with_reducible rfl
              rotate_left
              ·
               simp only [Act.put, lt1_, lt2_, lt3_, i64_w, i32_w]
               rfl
              refine pure_ (i := 7) (N := some 76) (v := ?_) (a' := ?_) #[true, false, true, false, true, false, true, true, false, false, false, false, false, false, false] rfl rfl (any_of HT_.out (by kernel_rfl)) (fun _ _ _ h => h) (Or.inl ⟨by rfl, ?_⟩) ?_ ?_
              rotate_left
              ·
               intro w'
               go_simp
               with_reducible rfl
              rotate_left
              ·
               simp only [Act.put, lt1_, lt2_, lt3_, i64_w, i32_w]
               rfl
              refine take_ (i := 1) (N := some 70) (v := ?_) (a' := ?_) #[true, true, true, false, true, false, true, true, false, false, false, false, false, false, false] rfl rfl (take_ofW HT_.out HW_.out (by kernel_rfl)) (fun _ _ _ h => h) (Or.inl ⟨by rfl, ?_⟩) hHeld ?_ ?_
              rotate_left
              ·
               rintro w' ⟨s0, s1, s2, s3, s4, s5, s6, s7⟩
               go_simp
               with_reducible rfl
              rotate_left
              ·
               simp only [Act.put, lt1_, lt2_, lt3_, i64_w, i32_w]
               rfl
              refine pure_ (i := 3) (N := some 72) (v := ?_) (a' := ?_) #[true, true, true, true, true, false, true, true, false, false, false, false, false, false, false] rfl rfl (any_of HT_.out (by kernel_rfl)) (fun _ _ _ h => h) (Or.inl ⟨by rfl, ?_⟩) ?_ ?_
              rotate_left
              ·
               intro w'
               go_simp
               with_reducible rfl
              rotate_left
              ·
               simp only [Act.put, lt1_, lt2_, lt3_, i64_w, i32_w]
               rfl
              refine take_ (i := 5) (N := some 74) (v := ?_) (a' := ?_) #[true, true, true, true, true, true, true, true, false, false, false, false, false, false, false] rfl rfl (take_ofW HT_.out HW_.out (by kernel_rfl)) (fun _ _ _ h => h) (Or.inl ⟨by rfl, ?_⟩) hHeld ?_ ?_
              rotate_left
              ·
               rintro w' ⟨s0, s1, s2, s3, s4, s5, s6, s7⟩
               go_simp
               with_reducible rfl
              rotate_left
              ·
               simp only [Act.put, lt1_, lt2_, lt3_, i64_w, i32_w]
               rfl
              refine take_ (i := 8) (N := some 77) (v := ?_) (a' := ?_) #[true, true, true, true, true, true, true, true, true, false, false, false, false, false, false] rfl rfl (take_ofW HT_.out HW_.out (by kernel_rfl)) (fun _ _ _ h => h) (Or.inl ⟨by rfl, ?_⟩) hHeld ?_ ?_
              rotate_left
              ·
               rintro w' ⟨s0, s1, s2, s3, s4, s5, s6, s7⟩
               go_simp
               with_reducible rfl
              rotate_left
              ·
               simp only [Act.put, lt1_, lt2_, lt3_, i64_w, i32_w]
               rfl
              refine pure_ (i := 9) (N := some 78) (v := ?_) (a' := ?_) #[true, true, true, true, true, true, true, true, true, true, false, false, false, false, false] rfl rfl (any_of HT_.out (by kernel_rfl)) (fun _ _ _ h => h) (Or.inl ⟨by rfl, ?_⟩) ?_ ?_
              rotate_left
              ·
               intro w'
               go_simp
               with_reducible rfl
              rotate_left
              ·
               simp only [Act.put, lt1_, lt2_, lt3_, i64_w, i32_w]
               rfl
              refine pure_ (i := 10) (N := some 79) (v := ?_) (a' := ?_) #[true, true, true, true, true, true, true, true, true, true, true, false, false, false, false] rfl rfl (any_of HT_.out (by kernel_rfl)) (fun _ _ _ h => h) (Or.inl ⟨by rfl, ?_⟩) ?_ ?_
              rotate_left
              ·
               intro w'
               go_simp
               with_reducible rfl
              rotate_left
              ·
               simp only [Act.put, lt1_, lt2_, lt3_, i64_w, i32_w]
               rfl
              refine one_ (i := 11) (N := some 80) #[true, true, true, true, true, true, true, true, true, true, true, true, false, false, false] rfl rfl (one_of HT_.out (by kernel_rfl)) (by decide) (fun K hK => ?_)
              refine goes_ Try.func29 (by kernel_rfl) rfl #[.slice A104 y198.length c104] (by rfl) rfl rfl au_ ?_
              with_reducible refine (replica_copied.calls kj2 (fun k_ => (((P0_2_ k_ ∨ P1_3_ k_) ∨ w.heap.size ≤ k_) ∧ (some k_ ≠ (.slice Ao95 y195.length co95 : Value).ownBlock ∧ (k_ ≠ gb184 ∧ (k_ ≠ gb185 ∧ (k_ ≠ gb186 ∧ k_ ≠ gb194)))))) _ _ y198 t203 _ ?side1 A75.out).mono ?_
              (case side1 => exact HO202.out)
              rintro e w105 ⟨v204, rfl, ho0, hb⟩
              refine ⟨_, rfl, ?_⟩
              have n0_ := am_ (Kd.V_elder' (pV_ HO_185002.out) (Kd.N_base ho0) hb)
              have n1_ := am_ (Kd.V_elder' (pV_ HO_186003.out) (Kd.N_base ho0) hb)
              have n2_ := am_ (Kd.N_elder' (pN_ HO197.out) (Kd.N_base ho0) hb)
              have n3_ := am_ (Kd.V_elder' (pV_ HO202.out) (Kd.N_base ho0) hb)
              have n4_ := am_ (nl_ (nm_ (ok' := fun k_ => ((P0_2_ k_ ∨ P1_3_ k_) ∨ w.heap.size ≤ k_) ∧ some k_ ≠ (.slice Ao95 y195.length co95 : Value).ownBlock ∧ k_ ≠ gb184 ∧ k_ ≠ gb185 ∧ k_ ≠ gb186 ∧ k_ ≠ gb194) ho0 (fun k_ hk_ => ⟨Or.elim hk_ (fun hs_ => hs_.1) (fun hn_ => (.inr (Nat.le_trans (bz_ (pb4_ HB.out GE184.out GE185.out GE186.out GE194.out)) hn_))), Or.elim hk_ (fun hs_ => hs_.2.1) (fun hn_ => (Kd.fresh' (Kd.N_lt (pN_ HO197.out)) k_ hn_)), Or.elim hk_ (fun hs_ => hs_.2.2.1) (fun hn_ => (fb_ (g := gb184) (o := .cells #[.int .i64 a0_0, .int .i64 a0_1, .slice A0_2 l0_2.length c0_2] 35 (0, 0)) (pk_ BK184.out) k_ hn_)), Or.elim hk_ (fun hs_ => hs_.2.2.2.1) (fun hn_ => (fb_ (g := gb185) (o := .cells #[.int .i64 a1_0, .int .i64 a1_1, .int .i64 a1_2, .slice A1_3 l1_3.length c1_3, .int .i64 a1_4] 30 (0, 0)) (pk_ BK185.out) k_ hn_)), Or.elim hk_ (fun hs_ => hs_.2.2.2.2.1) (fun hn_ => (fb_ (g := gb186) (o := .cells #[.int .i64 0, .int .i64 0, .slice none 0 0] 35 (0, 0)) (pk_ BK186.out) k_ hn_)), Or.elim hk_ (fun hs_ => hs_.2.2.2.2.2) (fun hn_ => (fb_ (g := gb194) (o := .cells #[.int .i64 a1_0, .int .i64 a0_1, .slice Ao95 t191.length co95] 35 (0, 0)) (pk_ BK194.out) k_ hn_))⟩)) (bz_ (pb4_ HB.out GE184.out GE185.out GE186.out GE194.out)))
              have n5_ := am_ (bw_ (g := gb184) (o := .cells #[.int .i64 a0_0, .int .i64 a0_1, .slice A0_2 l0_2.length c0_2] 35 (0, 0)) (pk_ BK184.out) hb)
              have n6_ := am_ (bw_ (g := gb185) (o := .cells #[.int .i64 a1_0, .int .i64 a1_1, .int .i64 a1_2, .slice A1_3 l1_3.length c1_3, .int .i64 a1_4] 30 (0, 0)) (pk_ BK185.out) hb)
              have n7_ := am_ (bw_ (g := gb186) (o := .cells #[.int .i64 0, .int .i64 0, .slice none 0 0] 35 (0, 0)) (pk_ BK186.out) hb)
              have n8_ := am_ (bw_ (g := gb194) (o := .cells #[.int .i64 a1_0, .int .i64 a0_1, .slice Ao95 t191.length co95] 35 (0, 0)) (pk_ BK194.out) hb)
              have n9_ := am_ (sp_ (pb4_ HB.out GE184.out GE185.out GE186.out GE194.out) hb)
              clear HO_185002
              clear HO_186003
              clear HO197
              clear HO202
              clear BK184
              clear BK185
              clear BK186
              clear BK194
              clear HB
              have HO_185002 := n0_
              have HO_186003 := n1_
              have HO197 := n2_
              have HO202 := n3_
              have HO205 := n4_
              have BK184 := n5_
              have BK185 := n6_
              have BK186 := n7_
              have BK194 := n8_
              have HB := n9_
              clear n0_ n1_ n2_ n3_ n4_ n5_ n6_ n7_ n8_ n9_
              (try clear hb)
              (try clear hb2)
              (try clear hk)
              (try clear hi)
              (try clear ho0)
              obtain ⟨Ao107, co107, eo107⟩ := Kd.N_slice HO205.out
              (first | subst eo107 | (injection eo107 with f1_ f2_ f3_; have f4_ := f1_.symm; have f5_ := f3_.symm; clear f1_ f2_ f3_; subst f4_; subst f5_))
              refine hK.out _ _ ⟨(bc_ BK194.out 0).trans rfl, (bc_ BK194.out 1).trans rfl, (bc_ BK194.out 2).trans rfl, (bc_ BK185.out 0).trans rfl, (bc_ BK185.out 1).trans rfl, (bc_ BK185.out 2).trans rfl, (bc_ BK185.out 3).trans rfl, (bc_ BK185.out 4).trans rfl⟩ (fun hHeld => ?_)
              clear hK K
              refine norm_ (a' := ?_) ?_ ?_
              rotate_left
              ·
               show Act.put _ (some 80) _ = _
               simp only [Act.put, lt1_, lt2_, lt3_, i64_w, i32_w]
               rfl
              refine one_ (i := 12) (N := some 81) #[true, true, true, true, true, true, true, true, true, true, true, true, true, false, false] rfl rfl (one_of HT_.out (by kernel_rfl)) (by decide) (fun K hK => ?_)
              refine Kd.N_append_rows_step k87 (w0 := w) w.heap.size (by rfl) (.tmp 72) (.tmp 80) 28 87 (.agg #[(.int .i64 0), (.slice none 0 0)]) 32 rfl Try.underlying28 info87 rfl (by decide) (by omega) (.slice Ao95 y195.length co95) y195 t203 _ _ _ (fun k_ => ((P0_2_ k_ ∨ P1_3_ k_) ∨ w.heap.size ≤ k_) ∧ k_ ≠ gb184 ∧ k_ ≠ gb185 ∧ k_ ≠ gb186 ∧ k_ ≠ gb194) (fun k_ => ((fun k_ => ((P0_2_ k_ ∨ P1_3_ k_) ∨ w.heap.size ≤ k_) ∧ k_ ≠ gb184 ∧ k_ ≠ gb185 ∧ k_ ≠ gb186 ∧ k_ ≠ gb194)) k_ ∧ some k_ ≠ (.slice Ao95 y195.length co95 : Value).ownBlock) rfl rfl ?aO ?aR (fun _ hk => hk) ?aF ?aB ?aS ?aL ?_
              (case aR => exact (by skip; exact Kd.N_F (nm_ (ok' := (fun k_ => ((fun k_ => ((P0_2_ k_ ∨ P1_3_ k_) ∨ w.heap.size ≤ k_) ∧ k_ ≠ gb184 ∧ k_ ≠ gb185 ∧ k_ ≠ gb186 ∧ k_ ≠ gb194)) k_ ∧ some k_ ≠ (.slice Ao95 y195.length co95 : Value).ownBlock)) (HO205.out) (fun k_ hk => ⟨⟨hk.1, ⟨hk.2.2.1, ⟨hk.2.2.2.1, ⟨hk.2.2.2.2.1, hk.2.2.2.2.2⟩⟩⟩⟩, hk.2.1⟩))))
              (case aB => exact (pb4_ HB.out GE184.out GE185.out GE186.out GE194.out))
              (case aF => exact (fun k_ hk => ⟨(.inr (Nat.le_trans (bz_ (pb4_ HB.out GE184.out GE185.out GE186.out GE194.out)) hk)), fb_ (g := gb184) (o := .cells #[.int .i64 a0_0, .int .i64 a0_1, .slice A0_2 l0_2.length c0_2] 35 (0, 0)) (pk_ BK184.out) k_ hk, fb_ (g := gb185) (o := .cells #[.int .i64 a1_0, .int .i64 a1_1, .int .i64 a1_2, .slice A1_3 l1_3.length c1_3, .int .i64 a1_4] 30 (0, 0)) (pk_ BK185.out) k_ hk, fb_ (g := gb186) (o := .cells #[.int .i64 0, .int .i64 0, .slice none 0 0] 35 (0, 0)) (pk_ BK186.out) k_ hk, fb_ (g := gb194) (o := .cells #[.int .i64 a1_0, .int .i64 a0_1, .slice Ao95 t191.length co95] 35 (0, 0)) (pk_ BK194.out) k_ hk⟩))
              (case aO => exact (by (with_reducible repeat (first | apply na_ | apply nn_ | apply nd_)); exact nm_ HO197.out (fun _ hk => ⟨hk.1.1, ⟨hk.1.2.1, ⟨hk.1.2.2.1, ⟨hk.1.2.2.2.1, hk.1.2.2.2.2⟩⟩⟩⟩)))
              (case aS => exact (bz_ (pb4_ HB.out GE184.out GE185.out GE186.out GE194.out)))
              (case aL => have := LMc76.out; omega)
              intro v207 w106 ho hb hg hat
              rw [← Ny206.out] at ho
              have n0_ := am_ (Kd.V_afterv (ok := (fun k_ => ((P0_2_ k_ ∨ P1_3_ k_) ∨ w.heap.size ≤ k_) ∧ some k_ ≠ (.slice Ao107 t203.length co107 : Value).ownBlock ∧ k_ ≠ gb184 ∧ k_ ≠ gb185 ∧ k_ ≠ gb186 ∧ k_ ≠ gb194)) (by (with_reducible repeat (first | apply va_ | apply vn_ | apply vd_)); exact vm_ HO_185002.out (fun _ hk => ⟨⟨hk.1.1, ⟨hk.2, ⟨hk.1.2.2.1, ⟨hk.1.2.2.2.1, ⟨hk.1.2.2.2.2.1, hk.1.2.2.2.2.2⟩⟩⟩⟩⟩, (by have e_ := hk.1.2.1; cases Ao95 <;> exact e_)⟩)) hg hat)
              have n1_ := am_ (Kd.V_afterv (ok := (fun k_ => ((P0_2_ k_ ∨ P1_3_ k_) ∨ w.heap.size ≤ k_) ∧ some k_ ≠ (.slice Ao107 t203.length co107 : Value).ownBlock ∧ k_ ≠ gb184 ∧ k_ ≠ gb185 ∧ k_ ≠ gb186 ∧ k_ ≠ gb194)) (by (with_reducible repeat (first | apply va_ | apply vn_ | apply vd_)); exact vm_ HO_186003.out (fun _ hk => ⟨⟨hk.1.1, ⟨hk.2, ⟨hk.1.2.2.1, ⟨hk.1.2.2.2.1, ⟨hk.1.2.2.2.2.1, hk.1.2.2.2.2.2⟩⟩⟩⟩⟩, (by have e_ := hk.1.2.1; cases Ao95 <;> exact e_)⟩)) hg hat)
              have n2_ := am_ (blk_grown (g := gb184) (o := .cells #[.int .i64 a0_0, .int .i64 a0_1, .slice A0_2 l0_2.length c0_2] 35 (0, 0)) (pk_ BK184.out) hg (Kd.N_ne HO197.out BK184.out (by decide)))
              have n3_ := am_ (blk_grown (g := gb185) (o := .cells #[.int .i64 a1_0, .int .i64 a1_1, .int .i64 a1_2, .slice A1_3 l1_3.length c1_3, .int .i64 a1_4] 30 (0, 0)) (pk_ BK185.out) hg (Kd.N_ne HO197.out BK185.out (by decide)))
              have n4_ := am_ (blk_grown (g := gb186) (o := .cells #[.int .i64 0, .int .i64 0, .slice none 0 0] 35 (0, 0)) (pk_ BK186.out) hg (Kd.N_ne HO197.out BK186.out (by decide)))
              have n5_ := am_ (blk_grown (g := gb194) (o := .cells #[.int .i64 a1_0, .int .i64 a0_1, .slice Ao95 t191.length co95] 35 (0, 0)) (pk_ BK194.out) hg (Kd.N_ne HO197.out BK194.out (by decide)))
              have n6_ := am_ (Kd.V_afterv (ok := (fun k_ => ((P0_2_ k_ ∨ P1_3_ k_) ∨ w.heap.size ≤ k_) ∧ some k_ ≠ (.slice Ao107 t203.length co107 : Value).ownBlock ∧ k_ ≠ gb184 ∧ k_ ≠ gb185 ∧ k_ ≠ gb186 ∧ k_ ≠ gb194)) (by (with_reducible repeat (first | apply va_ | apply vn_ | apply vd_)); exact vm_ HO202.out (fun _ hk => ⟨⟨hk.1.1, ⟨hk.2, ⟨hk.1.2.2.1, ⟨hk.1.2.2.2.1, ⟨hk.1.2.2.2.2.1, hk.1.2.2.2.2.2⟩⟩⟩⟩⟩, hk.1.2.1⟩)) hg hat)
              have n7_ := am_ (Kd.N_afterv (ok := (fun k_ => ((P0_2_ k_ ∨ P1_3_ k_) ∨ w.heap.size ≤ k_) ∧ k_ ≠ gb184 ∧ k_ ≠ gb185 ∧ k_ ≠ gb186 ∧ k_ ≠ gb194)) (by (with_reducible repeat (first | apply na_ | apply nn_ | apply nd_)); exact nm_ HO205.out (fun _ hk => ⟨⟨hk.1, ⟨hk.2.2.1, ⟨hk.2.2.2.1, ⟨hk.2.2.2.2.1, hk.2.2.2.2.2⟩⟩⟩⟩, hk.2.1⟩)) hg hat)
              have n8_ := am_ (hb)
              have n9_ := am_ (ho)
              clear HO_185002
              clear HO_186003
              clear BK184
              clear BK185
              clear BK186
              clear BK194
              clear HO202
              clear HO205
              clear HB
              clear HO197
              have HO_185002 := n0_
              have HO_186003 := n1_
              have BK184 := n2_
              have BK185 := n3_
              have BK186 := n4_
              have BK194 := n5_
              have HO202 := n6_
              have HO205 := n7_
              have HB := n8_
              have HO208 := n9_
              clear n0_ n1_ n2_ n3_ n4_ n5_ n6_ n7_ n8_ n9_
              clear ho hb hg hat
              obtain ⟨Ao108, co108, eo108⟩ := Kd.N_slice HO208.out
              (first | subst eo108 | (injection eo108 with f1_ f2_ f3_; have f4_ := f1_.symm; have f5_ := f3_.symm; clear f1_ f2_ f3_; subst f4_; subst f5_))
              refine hK.out _ _ ⟨(bc_ BK194.out 0).trans rfl, (bc_ BK194.out 1).trans rfl, (bc_ BK194.out 2).trans rfl, (bc_ BK185.out 0).trans rfl, (bc_ BK185.out 1).trans rfl, (bc_ BK185.out 2).trans rfl, (bc_ BK185.out 3).trans rfl, (bc_ BK185.out 4).trans rfl⟩ (fun hHeld => ?_)
              clear hK K
              refine norm_ (a' := ?_) ?_ ?_
              rotate_left
              ·
               show Act.put _ (some 81) _ = _
               simp only [Act.put, lt1_, lt2_, lt3_, i64_w, i32_w]
               rfl
              refine pure_ (i := 13) (N := some 82) (v := ?_) (a' := ?_) #[true, true, true, true, true, true, true, true, true, true, true, true, true, true, false] rfl rfl (any_of HT_.out (by kernel_rfl)) (fun _ _ _ h => h) (Or.inl ⟨by rfl, ?_⟩) ?_ ?_
              rotate_left
              ·
               intro w'
               go_simp
               with_reducible rfl
              rotate_left
              ·
               simp only [Act.put, lt1_, lt2_, lt3_, i64_w, i32_w]
               rfl
              refine last_ (i := 14) (N := none) #[true, true, true, true, true, true, true, true, true, true, true, true, true, true, true] rfl rfl (one_of HT_.out (by kernel_rfl)) (by decide) (fun K hK => ?_)
              have hs109 : w106.cell? ⟨gb194, 2, none⟩ = some (.slice Ao95 t191.length co95) := (bc_ BK194.out 2).trans rfl
              have hfs109 := bf_ BK194.out 2
              have hns109_0 := NB184_194.out
              have hns109_1 := NB185_194.out
              have hns109_2 := NB186_194.out
              have hms109_0 := NB194_184.out
              have hms109_1 := NB194_185.out
              have hms109_2 := NB194_186.out
              refine skip_ (w1 := ?_) (by rfl) rfl ?_ ?_
              rotate_left
              ·
               go_simp
               rfl
              refine hK.out _ _ ?_
              clear hK K
              refine done_ (done_of HT_.out (by kernel_rfl)) ?_
              have hcz110_0 : w106.cell? ⟨gb184, 0, none⟩ = some (.int .i64 a0_0) := (bc_ BK184.out 0).trans rfl
              have hcz110_1 : w106.cell? ⟨gb184, 1, none⟩ = some (.int .i64 a0_1) := (bc_ BK184.out 1).trans rfl
              have hcz110_2 : w106.cell? ⟨gb184, 2, none⟩ = some (.slice A0_2 l0_2.length c0_2) := (bc_ BK184.out 2).trans rfl
              have hfz110_0 := bf_ BK184.out 0
              have hfz110_1 := bf_ BK184.out 1
              have hfz110_2 := bf_ BK184.out 2
              have hnb111 := NB185_194.out
              have hnc111 := NB194_185.out
              have hcz112_0 : w106.cell? ⟨gb185, 0, none⟩ = some (.int .i64 a1_0) := (bc_ BK185.out 0).trans rfl
              have hcz112_1 : w106.cell? ⟨gb185, 1, none⟩ = some (.int .i64 a1_1) := (bc_ BK185.out 1).trans rfl
              have hcz112_2 : w106.cell? ⟨gb185, 2, none⟩ = some (.int .i64 a1_2) := (bc_ BK185.out 2).trans rfl
              have hcz112_3 : w106.cell? ⟨gb185, 3, none⟩ = some (.slice A1_3 l1_3.length c1_3) := (bc_ BK185.out 3).trans rfl
              have hcz112_4 : w106.cell? ⟨gb185, 4, none⟩ = some (.int .i64 a1_4) := (bc_ BK185.out 4).trans rfl
              have hfz112_0 := bf_ BK185.out 0
              have hfz112_1 := bf_ BK185.out 1
              have hfz112_2 := bf_ BK185.out 2
              have hfz112_3 := bf_ BK185.out 3
              have hfz112_4 := bf_ BK185.out 4
              have hnb113 := NB194_186.out
              have hnc113 := NB186_194.out
              have hcz114_0 : w106.cell? ⟨gb194, 0, none⟩ = some (.int .i64 a1_0) := (bc_ BK194.out 0).trans rfl
              have hcz114_1 : w106.cell? ⟨gb194, 1, none⟩ = some (.int .i64 a0_1) := (bc_ BK194.out 1).trans rfl
              have hcz114_2 : w106.cell? ⟨gb194, 2, none⟩ = some (.slice Ao95 t191.length co95) := (bc_ BK194.out 2).trans rfl
              have hfz114_0 := bf_ BK194.out 0
              have hfz114_1 := bf_ BK194.out 1
              have hfz114_2 := bf_ BK194.out 2
              have hcz115_0 : w106.cell? ⟨gb186, 0, none⟩ = some (.int .i64 0) := (bc_ BK186.out 0).trans rfl
              have hcz115_1 : w106.cell? ⟨gb186, 1, none⟩ = some (.int .i64 0) := (bc_ BK186.out 1).trans rfl
              have hcz115_2 : w106.cell? ⟨gb186, 2, none⟩ = some (.slice none 0 0) := (bc_ BK186.out 2).trans rfl
              have hfz115_0 := bf_ BK186.out 0
              have hfz115_1 := bf_ BK186.out 1
              have hfz115_2 := bf_ BK186.out 2
              try go_wp2
              refine bodyPost_ret (results_ctt rfl _ _ gb186 35 #[.int .i64 a1_0, .int .i64 ji78, .slice Ao108 y206.length co108] (0, 0) _ rfl (by (with_reducible repeat (first | refine bn_ ?_ _ | refine bd_ ?_ | refine ba_ ?_ _)); refine blk_put (cs := #[.int .i64 a1_0, .int .i64 ji78, .slice none 0 0]) ?_ 2 _ rfl; (with_reducible repeat (first | refine bn_ ?_ _ | refine bd_ ?_ | refine ba_ ?_ _)); refine blk_put (cs := #[.int .i64 a1_0, .int .i64 0, .slice none 0 0]) ?_ 1 _ rfl; (with_reducible repeat (first | refine bn_ ?_ _ | refine bd_ ?_ | refine ba_ ?_ _)); refine blk_put (cs := #[.int .i64 0, .int .i64 0, .slice none 0 0]) ?_ 0 _ rfl; (with_reducible repeat (first | refine bn_ ?_ _ | refine bd_ ?_ | refine ba_ ?_ _)); refine blk_far ?_ NB186_194.out _; (with_reducible repeat (first | refine bn_ ?_ _ | refine bd_ ?_ | refine ba_ ?_ _)); refine blk_far ?_ NB186_194.out _; (with_reducible repeat (first | refine bn_ ?_ _ | refine bd_ ?_ | refine ba_ ?_ _)); exact BK186.out) Try.underlying35 rfl (by kernel_rfl)) rfl ?_
              exact ⟨_, by first | rfl | (simp [errW_none, errW_some] <;> rfl) | (simp only [← hji72, ← hji77, ← hji78]; first | rfl | (simp [errW_none, errW_some] <;> rfl)) | (simp [*, errW_none, errW_some] <;> rfl), by (with_reducible repeat (first | apply na_ | apply nn_ | apply nd_)); exact nm_ (nf_ (p := ⟨gb186, 2, none⟩) (nf_ (p := ⟨gb186, 1, none⟩) (nf_ (p := ⟨gb186, 0, none⟩) (nf_ (p := ⟨gb194, 1, none⟩) (nf_ (p := ⟨gb194, 2, none⟩) (nm_ (nm_ HO208.out (fun k_ hk => (⟨hk, hk.2.2.2.2⟩ : _ ∧ k_ ≠ gb194))) (fun k_ hk => (⟨hk, hk.1.2.2.2.1⟩ : _ ∧ k_ ≠ gb186))) (fun _ hk => hk.1.2) (.slice Ao108 y206.length co108)) (fun _ hk => hk.1.2) (.int .i64 ji78)) (fun _ hk => hk.2) (.int .i64 a1_0)) (fun _ hk => hk.2) (.int .i64 ji78)) (fun _ hk => hk.2) (.slice Ao108 y206.length co108)) (fun _ hk => hk.1.1.1), pb4_ HB.out GE184.out GE185.out GE186.out GE194.out⟩
             ·
              rw [if_neg c76] at H
              exact absurd H (by simp)
            ·
             rw [if_neg c74] at H
             exact absurd H (by simp)
           ·
            rw [if_neg c73] at H
            exact absurd H (by simp)
          ·
           rw [if_neg c71] at H
           exact absurd H (by simp)
         ·
          rw [if_neg c70] at H
          exact absurd H (by simp)
       ·
        rw [if_neg c44] at H
        have c44b0 : decide (t190 < (wrap64 (a1_1 + (l1_3.length : Int)))) = false := df_ c44
        clear c44
        obtain ⟨ji116, hji116⟩ : ∃ j_ : Int, (mn a1_4 (wrap64 (a1_1 + (l1_3.length : Int)))) = j_ := ⟨_, rfl⟩
        replace H : (some (a1_0, mx a0_1 (ji116), t191, wrap64 (a1_1 + (l1_3.length : Int)), 0)) = some (r1, r2, r3, r4, r5) := by first | (rw [hji116] at H; exact H) | (simp only [hji116] at H ⊢; exact H)
        (try rw [hji116] at A40)
        (try rw [hji116] at A42)
        (try rw [hji116] at A43)
        have hji116_ : (if (wrap64 (a1_1 + (l1_3.length : Int))) < a1_4 then (wrap64 (a1_1 + (l1_3.length : Int))) else a1_4) = ji116 := hji116
        obtain ⟨ji117, hji117⟩ : ∃ j_ : Int, (mx a0_1 (ji116)) = j_ := ⟨_, rfl⟩
        replace H : (some (a1_0, ji117, t191, wrap64 (a1_1 + (l1_3.length : Int)), 0)) = some (r1, r2, r3, r4, r5) := by first | (rw [hji117] at H; exact H) | (simp only [hji117] at H ⊢; exact H)
        (try rw [hji117] at A40)
        (try rw [hji117] at A42)
        (try rw [hji117] at A43)
        have hji117_ : (if a0_1 < (ji116) then (ji116) else a0_1) = ji117 := hji117
        simp only [Option.some.injEq, Prod.mk.injEq] at H
        obtain ⟨rfl, rfl, rfl, rfl, rfl⟩ := H
        have hnb118 := NB185_184.out
        have hnc118 := NB184_185.out
        have hnb119 := NB185_186.out
        have hnc119 := NB186_185.out
        have hcz120_0 : wc.cell? ⟨gb185, 0, none⟩ = some (.int .i64 a1_0) := (bc_ BK185.out 0).trans rfl
        have hcz120_1 : wc.cell? ⟨gb185, 1, none⟩ = some (.int .i64 a1_1) := (bc_ BK185.out 1).trans rfl
        have hcz120_2 : wc.cell? ⟨gb185, 2, none⟩ = some (.int .i64 a1_2) := (bc_ BK185.out 2).trans rfl
        have hcz120_3 : wc.cell? ⟨gb185, 3, none⟩ = some (.slice A1_3 l1_3.length c1_3) := (bc_ BK185.out 3).trans rfl
        have hcz120_4 : wc.cell? ⟨gb185, 4, none⟩ = some (.int .i64 a1_4) := (bc_ BK185.out 4).trans rfl
        have hfz120_0 := bf_ BK185.out 0
        have hfz120_1 := bf_ BK185.out 1
        have hfz120_2 := bf_ BK185.out 2
        have hfz120_3 := bf_ BK185.out 3
        have hfz120_4 := bf_ BK185.out 4
        have hnb121 := NB184_186.out
        have hnc121 := NB186_184.out
        have hcz122_0 : wc.cell? ⟨gb184, 0, none⟩ = some (.int .i64 a0_0) := (bc_ BK184.out 0).trans rfl
        have hcz122_1 : wc.cell? ⟨gb184, 1, none⟩ = some (.int .i64 a0_1) := (bc_ BK184.out 1).trans rfl
        have hcz122_2 : wc.cell? ⟨gb184, 2, none⟩ = some (.slice A0_2 l0_2.length c0_2) := (bc_ BK184.out 2).trans rfl
        have hfz122_0 := bf_ BK184.out 0
        have hfz122_1 := bf_ BK184.out 1
        have hfz122_2 := bf_ BK184.out 2
        try go_wp2
        have n0_ := am_ (vd_ HO_185002.out)
        have n1_ := am_ (vd_ HO_186003.out)
        have n2_ := am_ (bd_ BK184.out)
        have n3_ := am_ (bd_ BK185.out)
        have n4_ := am_ (bd_ BK186.out)
        have n5_ := am_ (b1_ HB.out)
        clear HO_185002
        clear HO_186003
        clear BK184
        clear BK185
        clear BK186
        clear HB
        have HO_185002 := n0_
        have HO_186003 := n1_
        have BK184 := n2_
        have BK185 := n3_
        have BK186 := n4_
        have HB := n5_
        clear n0_ n1_ n2_ n3_ n4_ n5_
        refine start_ (n := 16) (S := fun w' => w'.cell? ⟨gb184, 0, none⟩ = some (.int .i64 a0_0) ∧ w'.cell? ⟨gb184, 1, none⟩ = some (.int .i64 a0_1) ∧ w'.cell? ⟨gb184, 2, none⟩ = some (.slice A0_2 l0_2.length c0_2) ∧ w'.cell? ⟨gb185, 0, none⟩ = some (.int .i64 a1_0) ∧ w'.cell? ⟨gb185, 1, none⟩ = some (.int .i64 a1_1) ∧ w'.cell? ⟨gb185, 2, none⟩ = some (.int .i64 a1_2) ∧ w'.cell? ⟨gb185, 3, none⟩ = some (.slice A1_3 l1_3.length c1_3) ∧ w'.cell? ⟨gb185, 4, none⟩ = some (.int .i64 a1_4)) (ds := []) #[false, false, false, false, false, false, false, false, false, false, false, false, false, false, false, false] (by kernel_rfl) rfl rfl ⟨(bc_ BK184.out 0).trans rfl, (bc_ BK184.out 1).trans rfl, (bc_ BK184.out 2).trans rfl, (bc_ BK185.out 0).trans rfl, (bc_ BK185.out 1).trans rfl, (bc_ BK185.out 2).trans rfl, (bc_ BK185.out 3).trans rfl, (bc_ BK185.out 4).trans rfl⟩ (fun hHeld => ?_); refine with_tabW replica_Accept.tab5 replica_Accept.bits5 (fun HT_ HW_ => ?_)
        generalize wc.drew = w123 at HO_185002 HO_186003 BK184 BK185 BK186 HB hHeld ⊢
        refine pure_ (i := 0) (N := some 28) (v := ?_) (a' := ?_) #[true, false, false, false, false, false, false, false, false, false, false, false, false, false, false, false] rfl rfl (any_of HT_.out (by kernel_rfl)) (fun _ _ _ h => h) (Or.inl ⟨by rfl, ?_⟩) ?_ ?_
        rotate_left
        ·
         intro w'
         go_simp
         with_reducible rfl
        rotate_left
        ·
         simp only [Act.put, lt1_, lt2_, lt3_, i64_w, i32_w]
         rfl
        refine pure_ (i := 3) (N := some 31) (v := ?_) (a' := ?_) #[true, false, false, true, false, false, false, false, false, false, false, false, false, false, false, false] rfl rfl (any_of HT_.out (by kernel_rfl)) (fun _ _ _ h => h) (Or.inl ⟨by rfl, ?_⟩) ?_ ?_
        rotate_left
        ·
         intro w'
         go_simp
         with_reducible rfl
        rotate_left
        ·
         simp only [Act.put, lt1_, lt2_, lt3_, i64_w, i32_w]
         rfl
        refine take_ (i := 1) (N := some 29) (v := ?_) (a' := ?_) #[true, true, false, true, false, false, false, false, false, false, false, false, false, false, false, false] rfl rfl (take_ofW HT_.out HW_.out (by kernel_rfl)) (fun _ _ _ h => h) (Or.inl ⟨by rfl, ?_⟩) hHeld ?_ ?_
        rotate_left
        ·
         rintro w' ⟨s0, s1, s2, s3, s4, s5, s6, s7⟩
         go_simp
         with_reducible rfl
        rotate_left
        ·
         simp only [Act.put, lt1_, lt2_, lt3_, i64_w, i32_w]
         rfl
        refine pure_ (i := 2) (N := some 30) (v := ?_) (a' := ?_) #[true, true, true, true, false, false, false, false, false, false, false, false, false, false, false, false] rfl rfl (any_of HT_.out (by kernel_rfl)) (fun _ _ _ h => h) (Or.inl ⟨by rfl, ?_⟩) ?_ ?_
        rotate_left
        ·
         intro w'
         go_simp
         with_reducible rfl
        rotate_left
        ·
         simp only [Act.put, lt1_, lt2_, lt3_, i64_w, i32_w]
         rfl
        refine take_ (i := 4) (N := some 32) (v := ?_) (a' := ?_) #[true, true, true, true, true, false, false, false, false, false, false, false, false, false, false, false] rfl rfl (take_ofW HT_.out HW_.out (by kernel_rfl)) (fun _ _ _ h => h) (Or.inl ⟨by rfl, ?_⟩) hHeld ?_ ?_
        rotate_left
        ·
         rintro w' ⟨s0, s1, s2, s3, s4, s5, s6, s7⟩
         go_simp
         with_reducible rfl
        rotate_left
        ·
         simp only [Act.put, lt1_, lt2_, lt3_, i64_w, i32_w]
         rfl
        refine pure_ (i := 5) (N := some 33) (v := ?_) (a' := ?_) #[true, true, true, true, true, true, false, false, false, false, false, false, false, false, false, false] rfl rfl (any_of HT_.out (by kernel_rfl)) (fun _ _ _ h => h) (Or.inl ⟨by rfl, ?_⟩) ?_ ?_
        rotate_left
        ·
         intro w'
         go_simp
         with_reducible rfl
        rotate_left
        ·
         simp only [Act.put, lt1_, lt2_, lt3_, i64_w, i32_w]
         rfl
        refine pure_ (i := 6) (N := some 34) (v := ?_) (a' := ?_) #[true, true, true, true, true, true, true, false, false, false, false, false, false, false, false, false] rfl rfl (any_of HT_.out (by kernel_rfl)) (fun _ _ _ h => h) (Or.inl ⟨by rfl, ?_⟩) ?_ ?_
        rotate_left
        ·
         intro w'
         go_simp
         with_reducible rfl
        rotate_left
        ·
         simp only [Act.put, lt1_, lt2_, lt3_, i64_w, i32_w]
         rfl
        refine pure_ (i := 8) (N := some 36) (v := ?_) (a' := ?_) #[true, true, true, true, true, true, true, false, true, false, false, false, false, false, false, false] rfl rfl (any_of HT_.out (by kernel_rfl)) (fun _ _ _ h => h) (Or.inl ⟨by rfl, ?_⟩) ?_ ?_
        rotate_left
        ·
         intro w'
         go_simp
         with_reducible rfl
        rotate_left
        ·
         simp only [Act.put, lt1_, lt2_, lt3_, i64_w, i32_w]
         rfl
        refine pure_ (i := 11) (N := some 39) (v := ?_) (a' := ?_) #[true, true, true, true, true, true, true, false, true, false, false, true, false, false, false, false] rfl rfl (any_of HT_.out (by kernel_rfl)) (fun _ _ _ h => h) (Or.inl ⟨by rfl, ?_⟩) ?_ ?_
        rotate_left
        ·
         intro w'
         go_simp
         with_reducible rfl
        rotate_left
        ·
         simp only [Act.put, lt1_, lt2_, lt3_, i64_w, i32_w]
         rfl
        refine take_ (i := 7) (N := some 35) (v := ?_) (a' := ?_) #[true, true, true, true, true, true, true, true, true, false, false, true, false, false, false, false] rfl rfl (take_ofW HT_.out HW_.out (by kernel_rfl)) (fun _ _ _ h => h) (Or.inl ⟨by rfl, ?_⟩) hHeld ?_ ?_
        rotate_left
        ·
         rintro w' ⟨s0, s1, s2, s3, s4, s5, s6, s7⟩
         go_simp
         with_reducible rfl
        rotate_left
        ·
         simp only [Act.put, lt1_, lt2_, lt3_, i64_w, i32_w]
         rfl
        refine take_ (i := 9) (N := some 37) (v := ?_) (a' := ?_) #[true, true, true, true, true, true, true, true, true, true, false, true, false, false, false, false] rfl rfl (take_ofW HT_.out HW_.out (by kernel_rfl)) (fun _ _ _ h => h) (Or.inl ⟨by rfl, ?_⟩) hHeld ?_ ?_
        rotate_left
        ·
         rintro w' ⟨s0, s1, s2, s3, s4, s5, s6, s7⟩
         go_simp
         with_reducible rfl
        rotate_left
        ·
         simp only [Act.put, lt1_, lt2_, lt3_, i64_w, i32_w]
         rfl
        refine take_ (i := 12) (N := some 40) (v := ?_) (a' := ?_) #[true, true, true, true, true, true, true, true, true, true, false, true, true, false, false, false] rfl rfl (take_ofW HT_.out HW_.out (by kernel_rfl)) (fun _ _ _ h => h) (Or.inl ⟨by rfl, ?_⟩) hHeld ?_ ?_
        rotate_left
        ·
         rintro w' ⟨s0, s1, s2, s3, s4, s5, s6, s7⟩
         go_simp
         with_reducible rfl
        rotate_left
        ·
         simp only [Act.put, lt1_, lt2_, lt3_, i64_w, i32_w]
         rfl
        refine one_ (i := 10) (N := some 38) #[true, true, true, true, true, true, true, true, true, true, true, true, true, false, false, false] rfl rfl (one_of HT_.out (by kernel_rfl)) (by decide) (fun K hK => ?_)
        refine goes_ Try.func28 (by kernel_rfl) rfl #[.agg #[.int .i64 a0_0, .int .i64 a0_1, .slice A0_2 l0_2.length c0_2], .int .i64 a1_1] (by rfl) rfl rfl au_ ?_
        with_reducible refine (replica_Node_end.calls a0_0 a0_1 _ _ l0_2 a1_1 t189 _ ?side1 ?side2 A40.out).mono ?_
        (case side1 => repeat (first | exact (Kd.V_reads' HO_185002.out).2.2 | (with_reducible refine Kd.C_alloc ?_ _) | (with_reducible refine Kd.C_drewN ?_ _) | (with_reducible refine Kd.C_drew ?_)))
        (case side2 => exact (Kd.V_reads' HO_185002.out).2.1)
        rintro e w124 ⟨rfl, hb⟩
        refine ⟨_, rfl, ?_⟩
        have n0_ := am_ (vb_ (pV_ HO_185002.out) hb)
        have n1_ := am_ (vb_ (pV_ HO_186003.out) hb)
        have n2_ := am_ (bw_ (g := gb184) (o := .cells #[.int .i64 a0_0, .int .i64 a0_1, .slice A0_2 l0_2.length c0_2] 35 (0, 0)) (pk_ BK184.out) hb)
        have n3_ := am_ (bw_ (g := gb185) (o := .cells #[.int .i64 a1_0, .int .i64 a1_1, .int .i64 a1_2, .slice A1_3 l1_3.length c1_3, .int .i64 a1_4] 30 (0, 0)) (pk_ BK185.out) hb)
        have n4_ := am_ (bw_ (g := gb186) (o := .cells #[.int .i64 0, .int .i64 0, .slice none 0 0] 35 (0, 0)) (pk_ BK186.out) hb)
        have n5_ := am_ (sp_ (pb3_ HB.out GE184.out GE185.out GE186.out) hb)
        clear HO_185002
        clear HO_186003
        clear BK184
        clear BK185
        clear BK186
        clear HB
        have HO_185002 := n0_
        have HO_186003 := n1_
        have BK184 := n2_
        have BK185 := n3_
        have BK186 := n4_
        have HB := n5_
        clear n0_ n1_ n2_ n3_ n4_ n5_
        (try clear hb)
        (try clear hb2)
        (try clear hk)
        (try clear hi)
        refine hK.out _ _ ⟨(bc_ BK184.out 0).trans rfl, (bc_ BK184.out 1).trans rfl, (bc_ BK184.out 2).trans rfl, (bc_ BK185.out 0).trans rfl, (bc_ BK185.out 1).trans rfl, (bc_ BK185.out 2).trans rfl, (bc_ BK185.out 3).trans rfl, (bc_ BK185.out 4).trans rfl⟩ (fun hHeld => ?_)
        clear hK K
        refine norm_ (a' := ?_) ?_ ?_
        rotate_left
        ·
         show Act.put _ (some 38) _ = _
         simp only [Act.put, lt1_, lt2_, lt3_, i64_w, i32_w]
         rfl
        refine pure_ (i := 13) (N := some 41) (v := ?_) (a' := ?_) #[true, true, true, true, true, true, true, true, true, true, true, true, true, true, false, false] rfl rfl (any_of HT_.out (by kernel_rfl)) (fun _ _ _ h => h) (Or.inl ⟨by rfl, ?_⟩) ?_ ?_
        rotate_left
        ·
         intro w'
         go_simp
         with_reducible rfl
        rotate_left
        ·
         simp only [Act.put, lt1_, lt2_, lt3_, i64_w, i32_w]
         rfl
        refine pure_ (i := 14) (N := some 42) (v := ?_) (a' := ?_) #[true, true, true, true, true, true, true, true, true, true, true, true, true, true, true, false] rfl rfl (any_of HT_.out (by kernel_rfl)) (fun _ _ _ h => h) (Or.inl ⟨by rfl, ?_⟩) ?_ ?_
        rotate_left
        ·
         intro w'
         go_simp
         with_reducible rfl
        rotate_left
        ·
         simp only [Act.put, lt1_, lt2_, lt3_, i64_w, i32_w]
         rfl
        refine pure_ (i := 15) (N := some 27) (v := ?_) (a' := ?_) #[true, true, true, true, true, true, true, true, true, true, true, true, true, true, true, true] rfl rfl (any_of HT_.out (by kernel_rfl)) (fun _ _ _ h => h) (Or.inl ⟨by rfl, ?_⟩) ?_ ?_
        rotate_left
        ·
         intro w'
         go_simp
         with_reducible rfl
        rotate_left
        ·
         simp only [Act.put, lt1_, lt2_, lt3_, i64_w, i32_w]
         rfl
        refine done_ (done_of HT_.out (by kernel_rfl)) ?_
        have hcz125_0 : w124.cell? ⟨gb184, 0, none⟩ = some (.int .i64 a0_0) := (bc_ BK184.out 0).trans rfl
        have hcz125_1 : w124.cell? ⟨gb184, 1, none⟩ = some (.int .i64 a0_1) := (bc_ BK184.out 1).trans rfl
        have hcz125_2 : w124.cell? ⟨gb184, 2, none⟩ = some (.slice A0_2 l0_2.length c0_2) := (bc_ BK184.out 2).trans rfl
        have hfz125_0 := bf_ BK184.out 0
        have hfz125_1 := bf_ BK184.out 1
        have hfz125_2 := bf_ BK184.out 2
        have hcz126_0 : w124.cell? ⟨gb185, 0, none⟩ = some (.int .i64 a1_0) := (bc_ BK185.out 0).trans rfl
        have hcz126_1 : w124.cell? ⟨gb185, 1, none⟩ = some (.int .i64 a1_1) := (bc_ BK185.out 1).trans rfl
        have hcz126_2 : w124.cell? ⟨gb185, 2, none⟩ = some (.int .i64 a1_2) := (bc_ BK185.out 2).trans rfl
        have hcz126_3 : w124.cell? ⟨gb185, 3, none⟩ = some (.slice A1_3 l1_3.length c1_3) := (bc_ BK185.out 3).trans rfl
        have hcz126_4 : w124.cell? ⟨gb185, 4, none⟩ = some (.int .i64 a1_4) := (bc_ BK185.out 4).trans rfl
        have hfz126_0 := bf_ BK185.out 0
        have hfz126_1 := bf_ BK185.out 1
        have hfz126_2 := bf_ BK185.out 2
        have hfz126_3 := bf_ BK185.out 3
        have hfz126_4 := bf_ BK185.out 4
        try go_wp2_with (first | ((with_reducible refine gate_callee (f := 37) rfl ?_); refine goesL_ (some 46) rfl rfl Try.func37 (by kernel_rfl) rfl #[.agg #[.int .i64 a0_0, .int .i64 a0_1, .slice A0_2 l0_2.length c0_2], .agg #[.int .i64 a1_0, .int .i64 a1_1, .int .i64 a1_2, .slice A1_3 l1_3.length c1_3, .int .i64 a1_4]] rfl au_ ?_; (with_reducible refine (replica_agreed.calls kj2 a0_0 a0_1 _ _ l0_2 a1_0 a1_1 a1_2 _ _ l1_3 a1_4 t190 _ ?side1 ?side2 ?side3 ?side4 A42.out).mono ?_); (case side1 => repeat (first | exact (Kd.V_reads' HO_185002.out).2.2 | (with_reducible refine Kd.C_alloc ?_ _) | (with_reducible refine Kd.C_drewN ?_ _) | (with_reducible refine Kd.C_drew ?_))); (case side2 => exact (Kd.V_reads' HO_185002.out).2.1); (case side3 => repeat (first | exact (Kd.V_reads' HO_186003.out).2.2 | (with_reducible refine Kd.C_alloc ?_ _) | (with_reducible refine Kd.C_drewN ?_ _) | (with_reducible refine Kd.C_drew ?_))); (case side4 => exact (Kd.V_reads' HO_186003.out).2.1); rintro e w127 ⟨rfl, hb⟩; refine ⟨_, rfl, ?_⟩; have n0_ := am_ (vb_ (pV_ HO_185002.out) hb); have n1_ := am_ (vb_ (pV_ HO_186003.out) hb); have n2_ := am_ (bw_ (g := gb184) (o := .cells #[.int .i64 a0_0, .int .i64 a0_1, .slice A0_2 l0_2.length c0_2] 35 (0, 0)) (pk_ BK184.out) hb); have n3_ := am_ (bw_ (g := gb185) (o := .cells #[.int .i64 a1_0, .int .i64 a1_1, .int .i64 a1_2, .slice A1_3 l1_3.length c1_3, .int .i64 a1_4] 30 (0, 0)) (pk_ BK185.out) hb); have n4_ := am_ (bw_ (g := gb186) (o := .cells #[.int .i64 0, .int .i64 0, .slice none 0 0] 35 (0, 0)) (pk_ BK186.out) hb); have n5_ := am_ (sp_ (pb3_ HB.out GE184.out GE185.out GE186.out) hb); clear HO_185002; clear HO_186003; clear BK184; clear BK185; clear BK186; clear HB; have HO_185002 := n0_; have HO_186003 := n1_; have BK184 := n2_; have BK185 := n3_; have BK186 := n4_; have HB := n5_; clear n0_ n1_ n2_ n3_ n4_ n5_; (try clear hb); (try clear hb2); (try clear hk); (try clear hi); have hcz128_0 : w127.cell? ⟨gb185, 0, none⟩ = some (.int .i64 a1_0) := (bc_ BK185.out 0).trans rfl; have hcz128_1 : w127.cell? ⟨gb185, 1, none⟩ = some (.int .i64 a1_1) := (bc_ BK185.out 1).trans rfl; have hcz128_2 : w127.cell? ⟨gb185, 2, none⟩ = some (.int .i64 a1_2) := (bc_ BK185.out 2).trans rfl; have hcz128_3 : w127.cell? ⟨gb185, 3, none⟩ = some (.slice A1_3 l1_3.length c1_3) := (bc_ BK185.out 3).trans rfl; have hcz128_4 : w127.cell? ⟨gb185, 4, none⟩ = some (.int .i64 a1_4) := (bc_ BK185.out 4).trans rfl; have hfz128_0 := bf_ BK185.out 0; have hfz128_1 := bf_ BK185.out 1; have hfz128_2 := bf_ BK185.out 2; have hfz128_3 := bf_ BK185.out 3; have hfz128_4 := bf_ BK185.out 4))
        have n0_ := am_ (vd_ HO_185002.out)
        have n1_ := am_ (vd_ HO_186003.out)
        have n2_ := am_ (bd_ BK184.out)
        have n3_ := am_ (bd_ BK185.out)
        have n4_ := am_ (bd_ BK186.out)
        have n5_ := am_ (b1_ HB.out)
        clear HO_185002
        clear HO_186003
        clear BK184
        clear BK185
        clear BK186
        clear HB
        have HO_185002 := n0_
        have HO_186003 := n1_
        have BK184 := n2_
        have BK185 := n3_
        have BK186 := n4_
        have HB := n5_
        clear n0_ n1_ n2_ n3_ n4_ n5_
        refine start_ (n := 10) (S := fun w' => w'.cell? ⟨gb185, 0, none⟩ = some (.int .i64 a1_0) ∧ w'.cell? ⟨gb185, 1, none⟩ = some (.int .i64 a1_1) ∧ w'.cell? ⟨gb185, 2, none⟩ = some (.int .i64 a1_2) ∧ w'.cell? ⟨gb185, 3, none⟩ = some (.slice A1_3 l1_3.length c1_3) ∧ w'.cell? ⟨gb185, 4, none⟩ = some (.int .i64 a1_4) ∧ w'.cell? ⟨gb184, 0, none⟩ = some (.int .i64 a0_0) ∧ w'.cell? ⟨gb184, 1, none⟩ = some (.int .i64 a0_1) ∧ w'.cell? ⟨gb184, 2, none⟩ = some (.slice A0_2 l0_2.length c0_2)) (ds := []) #[false, false, false, false, false, false, false, false, false, false] (by kernel_rfl) rfl rfl ⟨(bc_ BK185.out 0).trans rfl, (bc_ BK185.out 1).trans rfl, (bc_ BK185.out 2).trans rfl, (bc_ BK185.out 3).trans rfl, (bc_ BK185.out 4).trans rfl, (bc_ BK184.out 0).trans rfl, (bc_ BK184.out 1).trans rfl, (bc_ BK184.out 2).trans rfl⟩ (fun hHeld => ?_); refine with_tabW replica_Accept.tab9 replica_Accept.bits9 (fun HT_ HW_ => ?_)
        generalize w127.drew = w129 at HO_185002 HO_186003 BK184 BK185 BK186 HB hHeld ⊢
        refine pure_ (i := 0) (N := some 53) (v := ?_) (a' := ?_) #[true, false, false, false, false, false, false, false, false, false] rfl rfl (any_of HT_.out (by kernel_rfl)) (fun _ _ _ h => h) (Or.inl ⟨by rfl, ?_⟩) ?_ ?_
        rotate_left
        ·
         intro w'
         go_simp
         with_reducible rfl
        rotate_left
        ·
         simp only [Act.put, lt1_, lt2_, lt3_, i64_w, i32_w]
         rfl
        refine pure_ (i := 2) (N := some 55) (v := ?_) (a' := ?_) #[true, false, true, false, false, false, false, false, false, false] rfl rfl (any_of HT_.out (by kernel_rfl)) (fun _ _ _ h => h) (Or.inl ⟨by rfl, ?_⟩) ?_ ?_
        rotate_left
        ·
         intro w'
         go_simp
         with_reducible rfl
        rotate_left
        ·
         simp only [Act.put, lt1_, lt2_, lt3_, i64_w, i32_w]
         rfl
        refine pure_ (i := 4) (N := some 57) (v := ?_) (a' := ?_) #[true, false, true, false, true, false, false, false, false, false] rfl rfl (any_of HT_.out (by kernel_rfl)) (fun _ _ _ h => h) (Or.inl ⟨by rfl, ?_⟩) ?_ ?_
        rotate_left
        ·
         intro w'
         go_simp
         with_reducible rfl
        rotate_left
        ·
         simp only [Act.put, lt1_, lt2_, lt3_, i64_w, i32_w]
         rfl
        refine take_ (i := 1) (N := some 54) (v := ?_) (a' := ?_) #[true, true, true, false, true, false, false, false, false, false] rfl rfl (take_ofW HT_.out HW_.out (by kernel_rfl)) (fun _ _ _ h => h) (Or.inl ⟨by rfl, ?_⟩) hHeld ?_ ?_
        rotate_left
        ·
         rintro w' ⟨s0, s1, s2, s3, s4, s5, s6, s7⟩
         go_simp
         with_reducible rfl
        rotate_left
        ·
         simp only [Act.put, lt1_, lt2_, lt3_, i64_w, i32_w]
         rfl
        refine take_ (i := 3) (N := some 56) (v := ?_) (a' := ?_) #[true, true, true, true, true, false, false, false, false, false] rfl rfl (take_ofW HT_.out HW_.out (by kernel_rfl)) (fun _ _ _ h => h) (Or.inl ⟨by rfl, ?_⟩) hHeld ?_ ?_
        rotate_left
        ·
         rintro w' ⟨s0, s1, s2, s3, s4, s5, s6, s7⟩
         go_simp
         with_reducible rfl
        rotate_left
        ·
         simp only [Act.put, lt1_, lt2_, lt3_, i64_w, i32_w]
         rfl
        refine take_ (i := 5) (N := some 58) (v := ?_) (a' := ?_) #[true, true, true, true, true, true, false, false, false, false] rfl rfl (take_ofW HT_.out HW_.out (by kernel_rfl)) (fun _ _ _ h => h) (Or.inl ⟨by rfl, ?_⟩) hHeld ?_ ?_
        rotate_left
        ·
         rintro w' ⟨s0, s1, s2, s3, s4, s5, s6, s7⟩
         go_simp
         with_reducible rfl
        rotate_left
        ·
         simp only [Act.put, lt1_, lt2_, lt3_, i64_w, i32_w]
         rfl
        refine join_ (σ := Value × Nat) 1 #[true, true, true, true, true, true, true, true, true, false] (fun s_ => [(59, s_.1), (9, .pointer (some ⟨s_.2, 0, none⟩)), (60, .agg #[.int .i64 a1_0, .int .i64 a0_1, s_.1])]) (fun s_ w' => (w'.cell? ⟨gb185, 0, none⟩ = some (.int .i64 a1_0) ∧ w'.cell? ⟨gb185, 1, none⟩ = some (.int .i64 a1_1) ∧ w'.cell? ⟨gb185, 2, none⟩ = some (.int .i64 a1_2) ∧ w'.cell? ⟨gb185, 3, none⟩ = some (.slice A1_3 l1_3.length c1_3) ∧ w'.cell? ⟨gb185, 4, none⟩ = some (.int .i64 a1_4) ∧ w'.cell? ⟨gb184, 0, none⟩ = some (.int .i64 a0_0) ∧ w'.cell? ⟨gb184, 1, none⟩ = some (.int .i64 a0_1) ∧ w'.cell? ⟨gb184, 2, none⟩ = some (.slice A0_2 l0_2.length c0_2)) ∧ (Kd.N k87 87 w' w.heap.size (fun k_ => ((P0_2_ k_ ∨ P1_3_ k_) ∨ w.heap.size ≤ k_) ∧ k_ ≠ gb184 ∧ k_ ≠ gb185 ∧ k_ ≠ gb186 ∧ k_ ≠ s_.2) s_.1 t191) ∧ (Kd.V k87 87 w' w.heap.size (fun k_ => ((P0_2_ k_ ∨ P1_3_ k_) ∨ w.heap.size ≤ k_) ∧ some k_ ≠ (s_.1 : Value).ownBlock ∧ k_ ≠ gb184 ∧ k_ ≠ gb185 ∧ k_ ≠ gb186 ∧ k_ ≠ s_.2) (.slice A0_2 l0_2.length c0_2) l0_2) ∧ (Kd.V k87 87 w' w.heap.size (fun k_ => ((P0_2_ k_ ∨ P1_3_ k_) ∨ w.heap.size ≤ k_) ∧ some k_ ≠ (s_.1 : Value).ownBlock ∧ k_ ≠ gb184 ∧ k_ ≠ gb185 ∧ k_ ≠ gb186 ∧ k_ ≠ s_.2) (.slice A1_3 l1_3.length c1_3) l1_3) ∧ (w'.heap[gb184]? = some (.cells #[.int .i64 a0_0, .int .i64 a0_1, .slice A0_2 l0_2.length c0_2] 35 (0, 0))) ∧ (w'.heap[gb185]? = some (.cells #[.int .i64 a1_0, .int .i64 a1_1, .int .i64 a1_2, .slice A1_3 l1_3.length c1_3, .int .i64 a1_4] 30 (0, 0))) ∧ (w'.heap[gb186]? = some (.cells #[.int .i64 0, .int .i64 0, .slice none 0 0] 35 (0, 0))) ∧ (w'.heap[s_.2]? = some (.cells #[.int .i64 0, .int .i64 0, .slice none 0 0] 35 (0, 0))) ∧ (w.heap.size ≤ s_.2) ∧ (w.heap.size ≤ s_.2) ∧ (gb184 ≠ s_.2) ∧ (s_.2 ≠ gb184) ∧ (gb185 ≠ s_.2) ∧ (s_.2 ≠ gb185) ∧ (gb186 ≠ s_.2) ∧ (s_.2 ≠ gb186) ∧ (Below w.heap.size w w')) ?_ ?_
        rotate_left
        ·
         intro hCont
         refine two_ (i := 6) (j := 8) (Ni := some 59) (Nj := some 9) #[true, true, true, true, true, true, true, false, false, false] #[true, true, true, true, true, true, false, false, true, false] rfl rfl rfl rfl (two_of HT_.out (by kernel_rfl)) (by decide) (by decide) (fun K hK => ?_) (fun K hK => ?_)
         ·
          skip
          refine goes_ Try.func29 (by kernel_rfl) rfl #[.slice A0_2 l0_2.length c0_2] (by rfl) rfl rfl au_ ?_
          with_reducible refine (replica_copied.calls kj2 (fun k_ => (((P0_2_ k_ ∨ P1_3_ k_) ∨ w.heap.size ≤ k_) ∧ (k_ ≠ gb184 ∧ (k_ ≠ gb185 ∧ k_ ≠ gb186)))) _ _ l0_2 t191 _ ?side1 A43.out).mono ?_
          (case side1 => exact HO_185002.out)
          rintro e w130 ⟨v192, rfl, ho0, hb⟩
          refine ⟨_, rfl, ?_⟩
          have n0_ := am_ (Kd.V_elder' (pV_ HO_185002.out) (Kd.N_base ho0) hb)
          have n1_ := am_ (Kd.V_elder' (pV_ HO_186003.out) (Kd.N_base ho0) hb)
          have n2_ := am_ (nl_ (nm_ (ok' := fun k_ => ((P0_2_ k_ ∨ P1_3_ k_) ∨ w.heap.size ≤ k_) ∧ k_ ≠ gb184 ∧ k_ ≠ gb185 ∧ k_ ≠ gb186) ho0 (fun k_ hk_ => ⟨Or.elim hk_ (fun hs_ => hs_.1) (fun hn_ => (.inr (Nat.le_trans (bz_ (pb3_ HB.out GE184.out GE185.out GE186.out)) hn_))), Or.elim hk_ (fun hs_ => hs_.2.1) (fun hn_ => (fb_ (g := gb184) (o := .cells #[.int .i64 a0_0, .int .i64 a0_1, .slice A0_2 l0_2.length c0_2] 35 (0, 0)) (pk_ BK184.out) k_ hn_)), Or.elim hk_ (fun hs_ => hs_.2.2.1) (fun hn_ => (fb_ (g := gb185) (o := .cells #[.int .i64 a1_0, .int .i64 a1_1, .int .i64 a1_2, .slice A1_3 l1_3.length c1_3, .int .i64 a1_4] 30 (0, 0)) (pk_ BK185.out) k_ hn_)), Or.elim hk_ (fun hs_ => hs_.2.2.2) (fun hn_ => (fb_ (g := gb186) (o := .cells #[.int .i64 0, .int .i64 0, .slice none 0 0] 35 (0, 0)) (pk_ BK186.out) k_ hn_))⟩)) (bz_ (pb3_ HB.out GE184.out GE185.out GE186.out)))
          have n3_ := am_ (bw_ (g := gb184) (o := .cells #[.int .i64 a0_0, .int .i64 a0_1, .slice A0_2 l0_2.length c0_2] 35 (0, 0)) (pk_ BK184.out) hb)
          have n4_ := am_ (bw_ (g := gb185) (o := .cells #[.int .i64 a1_0, .int .i64 a1_1, .int .i64 a1_2, .slice A1_3 l1_3.length c1_3, .int .i64 a1_4] 30 (0, 0)) (pk_ BK185.out) hb)
          have n5_ := am_ (bw_ (g := gb186) (o := .cells #[.int .i64 0, .int .i64 0, .slice none 0 0] 35 (0, 0)) (pk_ BK186.out) hb)
          have n6_ := am_ (sp_ (pb3_ HB.out GE184.out GE185.out GE186.out) hb)
          clear HO_185002
          clear HO_186003
          clear BK184
          clear BK185
          clear BK186
          clear HB
          have HO_185002 := n0_
          have HO_186003 := n1_
          have HO193 := n2_
          have BK184 := n3_
          have BK185 := n4_
          have BK186 := n5_
          have HB := n6_
          clear n0_ n1_ n2_ n3_ n4_ n5_ n6_
          (try clear hb)
          (try clear hb2)
          (try clear hk)
          (try clear hi)
          (try clear ho0)
          obtain ⟨Ao131, co131, eo131⟩ := Kd.N_slice HO193.out
          (first | subst eo131 | (injection eo131 with f1_ f2_ f3_; have f4_ := f1_.symm; have f5_ := f3_.symm; clear f1_ f2_ f3_; subst f4_; subst f5_))
          refine hK.out _ _ ⟨(bc_ BK185.out 0).trans rfl, (bc_ BK185.out 1).trans rfl, (bc_ BK185.out 2).trans rfl, (bc_ BK185.out 3).trans rfl, (bc_ BK185.out 4).trans rfl, (bc_ BK184.out 0).trans rfl, (bc_ BK184.out 1).trans rfl, (bc_ BK184.out 2).trans rfl⟩ (fun hHeld => ?_)
          clear hK K
          refine norm_ (a' := ?_) ?_ ?_
          rotate_left
          ·
           show Act.put _ (some 59) _ = _
           simp only [Act.put, lt1_, lt2_, lt3_, i64_w, i32_w]
           rfl
          refine pure_ (i := 7) (N := some 60) (v := ?_) (a' := ?_) #[true, true, true, true, true, true, true, true, false, false] rfl rfl (any_of HT_.out (by kernel_rfl)) (fun _ _ _ h => h) (Or.inl ⟨by rfl, ?_⟩) ?_ ?_
          rotate_left
          ·
           intro w'
           go_simp
           with_reducible rfl
          rotate_left
          ·
           simp only [Act.put, lt1_, lt2_, lt3_, i64_w, i32_w]
           rfl
          refine one_ (i := 8) (N := some 9) #[true, true, true, true, true, true, true, true, true, false] rfl rfl (one_of HT_.out (by kernel_rfl)) (by decide) (fun K hK => ?_)
          refine box_step ?hg (N := 9) ?hd (cs := #[.int .i64 0, .int .i64 0, .slice none 0 0]) (t := 35) ?hr ?_; (case hd => rfl); (case hg => rfl); (case hr => first | (go_simp; done) | (go_simp; rfl))
          intro gb194 hg w132 hbox hb
          have n0_ := am_ (vb_ (Kd.V_elderB (pV_ HO_185002.out) gb194 (le_ hg.symm)) hb)
          have n1_ := am_ (vb_ (Kd.V_elderB (pV_ HO_186003.out) gb194 (le_ hg.symm)) hb)
          have n2_ := am_ (nb_ (Kd.N_elderB (pN_ HO193.out) gb194 (le_ hg.symm)) hb)
          have n3_ := am_ (bw_ (g := gb184) (o := .cells #[.int .i64 a0_0, .int .i64 a0_1, .slice A0_2 l0_2.length c0_2] 35 (0, 0)) (pk_ BK184.out) hb)
          have n4_ := am_ (bw_ (g := gb185) (o := .cells #[.int .i64 a1_0, .int .i64 a1_1, .int .i64 a1_2, .slice A1_3 l1_3.length c1_3, .int .i64 a1_4] 30 (0, 0)) (pk_ BK185.out) hb)
          have n5_ := am_ (bw_ (g := gb186) (o := .cells #[.int .i64 0, .int .i64 0, .slice none 0 0] 35 (0, 0)) (pk_ BK186.out) hb)
          have n6_ := am_ (sp_ (pb3_ HB.out GE184.out GE185.out GE186.out) hb)
          have n7_ := am_ (hbox)
          have n8_ := am_ ((by rw [hg]; exact (bz_ (pb3_ HB.out GE184.out GE185.out GE186.out)) : w.heap.size ≤ gb194))
          have n9_ := am_ ((by rw [hg]; exact (bz_ (pb3_ HB.out GE184.out GE185.out GE186.out)) : w.heap.size ≤ gb194))
          have n10_ := am_ ((by rw [hg]; exact Nat.ne_of_lt (blk_lt (g := gb184) (o := .cells #[.int .i64 a0_0, .int .i64 a0_1, .slice A0_2 l0_2.length c0_2] 35 (0, 0)) (pk_ BK184.out)) : gb184 ≠ gb194))
          have n11_ := am_ ((by rw [hg]; exact Nat.ne_of_gt (blk_lt (g := gb184) (o := .cells #[.int .i64 a0_0, .int .i64 a0_1, .slice A0_2 l0_2.length c0_2] 35 (0, 0)) (pk_ BK184.out)) : gb194 ≠ gb184))
          have n12_ := am_ ((by rw [hg]; exact Nat.ne_of_lt (blk_lt (g := gb185) (o := .cells #[.int .i64 a1_0, .int .i64 a1_1, .int .i64 a1_2, .slice A1_3 l1_3.length c1_3, .int .i64 a1_4] 30 (0, 0)) (pk_ BK185.out)) : gb185 ≠ gb194))
          have n13_ := am_ ((by rw [hg]; exact Nat.ne_of_gt (blk_lt (g := gb185) (o := .cells #[.int .i64 a1_0, .int .i64 a1_1, .int .i64 a1_2, .slice A1_3 l1_3.length c1_3, .int .i64 a1_4] 30 (0, 0)) (pk_ BK185.out)) : gb194 ≠ gb185))
          have n14_ := am_ ((by rw [hg]; exact Nat.ne_of_lt (blk_lt (g := gb186) (o := .cells #[.int .i64 0, .int .i64 0, .slice none 0 0] 35 (0, 0)) (pk_ BK186.out)) : gb186 ≠ gb194))
          have n15_ := am_ ((by rw [hg]; exact Nat.ne_of_gt (blk_lt (g := gb186) (o := .cells #[.int .i64 0, .int .i64 0, .slice none 0 0] 35 (0, 0)) (pk_ BK186.out)) : gb194 ≠ gb186))
          clear HO_185002
          clear HO_186003
          clear HO193
          clear BK184
          clear BK185
          clear BK186
          clear HB
          have HO_185002 := n0_
          have HO_186003 := n1_
          have HO193 := n2_
          have BK184 := n3_
          have BK185 := n4_
          have BK186 := n5_
          have HB := n6_
          have BK194 := n7_
          have GW194 := n8_
          have GE194 := n9_
          have NB184_194 := n10_
          have NB194_184 := n11_
          have NB185_194 := n12_
          have NB194_185 := n13_
          have NB186_194 := n14_
          have NB194_186 := n15_
          clear n0_ n1_ n2_ n3_ n4_ n5_ n6_ n7_ n8_ n9_ n10_ n11_ n12_ n13_ n14_ n15_
          clear hb hbox hg
          refine hK.out _ _ ⟨(bc_ BK185.out 0).trans rfl, (bc_ BK185.out 1).trans rfl, (bc_ BK185.out 2).trans rfl, (bc_ BK185.out 3).trans rfl, (bc_ BK185.out 4).trans rfl, (bc_ BK184.out 0).trans rfl, (bc_ BK184.out 1).trans rfl, (bc_ BK184.out 2).trans rfl⟩ (fun hHeld => ?_)
          clear hK K
          refine norm_ (a' := ?_) ?_ ?_
          rotate_left
          ·
           show Act.put _ (some 9) _ = _
           simp only [Act.put, lt1_, lt2_, lt3_, i64_w, i32_w]
           rfl
          exact norm_ (by simp only [putAll, Act.put, lt1_, lt2_, lt3_]) (hCont (.slice Ao131 t191.length co131, gb194) _ ⟨hHeld, (by (with_reducible repeat (first | apply na_ | apply nn_ | apply nd_)); exact nm_ HO193.out (fun _ hk => ⟨hk.1.1, ⟨hk.1.2.1, ⟨hk.1.2.2.1, ⟨hk.1.2.2.2, hk.2⟩⟩⟩⟩)), (by (with_reducible repeat (first | apply va_ | apply vn_ | apply vd_)); exact vm_ HO_185002.out (fun _ hk => ⟨hk.1.1.1, ⟨hk.1.2, ⟨hk.1.1.2.1, ⟨hk.1.1.2.2.1, ⟨hk.1.1.2.2.2, hk.2⟩⟩⟩⟩⟩)), (by (with_reducible repeat (first | apply va_ | apply vn_ | apply vd_)); exact vm_ HO_186003.out (fun _ hk => ⟨hk.1.1.1, ⟨hk.1.2, ⟨hk.1.1.2.1, ⟨hk.1.1.2.2.1, ⟨hk.1.1.2.2.2, hk.2⟩⟩⟩⟩⟩)), (pk_ BK184.out), (pk_ BK185.out), (pk_ BK186.out), (pk_ BK194.out), GW194.out, GE194.out, NB184_194.out, NB194_184.out, NB185_194.out, NB194_185.out, NB186_194.out, NB194_186.out, (pb4_ HB.out GE184.out GE185.out GE186.out GE194.out)⟩)
         ·
          skip
          refine box_step ?hg (N := 9) ?hd (cs := #[.int .i64 0, .int .i64 0, .slice none 0 0]) (t := 35) ?hr ?_; (case hd => rfl); (case hg => rfl); (case hr => first | (go_simp; done) | (go_simp; rfl))
          intro gb194 hg w130 hbox hb
          have n0_ := am_ (vb_ (Kd.V_elderB (pV_ HO_185002.out) gb194 (le_ hg.symm)) hb)
          have n1_ := am_ (vb_ (Kd.V_elderB (pV_ HO_186003.out) gb194 (le_ hg.symm)) hb)
          have n2_ := am_ (bw_ (g := gb184) (o := .cells #[.int .i64 a0_0, .int .i64 a0_1, .slice A0_2 l0_2.length c0_2] 35 (0, 0)) (pk_ BK184.out) hb)
          have n3_ := am_ (bw_ (g := gb185) (o := .cells #[.int .i64 a1_0, .int .i64 a1_1, .int .i64 a1_2, .slice A1_3 l1_3.length c1_3, .int .i64 a1_4] 30 (0, 0)) (pk_ BK185.out) hb)
          have n4_ := am_ (bw_ (g := gb186) (o := .cells #[.int .i64 0, .int .i64 0, .slice none 0 0] 35 (0, 0)) (pk_ BK186.out) hb)
          have n5_ := am_ (sp_ (pb3_ HB.out GE184.out GE185.out GE186.out) hb)
          have n6_ := am_ (hbox)
          have n7_ := am_ ((by rw [hg]; exact (bz_ (pb3_ HB.out GE184.out GE185.out GE186.out)) : w.heap.size ≤ gb194))
          have n8_ := am_ ((by rw [hg]; exact (bz_ (pb3_ HB.out GE184.out GE185.out GE186.out)) : w.heap.size ≤ gb194))
          have n9_ := am_ ((by rw [hg]; exact Nat.ne_of_lt (blk_lt (g := gb184) (o := .cells #[.int .i64 a0_0, .int .i64 a0_1, .slice A0_2 l0_2.length c0_2] 35 (0, 0)) (pk_ BK184.out)) : gb184 ≠ gb194))
          have n10_ := am_ ((by rw [hg]; exact Nat.ne_of_gt (blk_lt (g := gb184) (o := .cells #[.int .i64 a0_0, .int .i64 a0_1, .slice A0_2 l0_2.length c0_2] 35 (0, 0)) (pk_ BK184.out)) : gb194 ≠ gb184))
          have n11_ := am_ ((by rw [hg]; exact Nat.ne_of_lt (blk_lt (g := gb185) (o := .cells #[.int .i64 a1_0, .int .i64 a1_1, .int .i64 a1_2, .slice A1_3 l1_3.length c1_3, .int .i64 a1_4] 30 (0, 0)) (pk_ BK185.out)) : gb185 ≠ gb194))
          have n12_ := am_ ((by rw [hg]; exact Nat.ne_of_gt (blk_lt (g := gb185) (o := .cells #[.int .i64 a1_0, .int .i64 a1_1, .int .i64 a1_2, .slice A1_3 l1_3.length c1_3, .int .i64 a1_4] 30 (0, 0)) (pk_ BK185.out)) : gb194 ≠ gb185))
          have n13_ := am_ ((by rw [hg]; exact Nat.ne_of_lt (blk_lt (g := gb186) (o := .cells #[.int .i64 0, .int .i64 0, .slice none 0 0] 35 (0, 0)) (pk_ BK186.out)) : gb186 ≠ gb194))
          have n14_ := am_ ((by rw [hg]; exact Nat.ne_of_gt (blk_lt (g := gb186) (o := .cells #[.int .i64 0, .int .i64 0, .slice none 0 0] 35 (0, 0)) (pk_ BK186.out)) : gb194 ≠ gb186))
          clear HO_185002
          clear HO_186003
          clear BK184
          clear BK185
          clear BK186
          clear HB
          have HO_185002 := n0_
          have HO_186003 := n1_
          have BK184 := n2_
          have BK185 := n3_
          have BK186 := n4_
          have HB := n5_
          have BK194 := n6_
          have GW194 := n7_
          have GE194 := n8_
          have NB184_194 := n9_
          have NB194_184 := n10_
          have NB185_194 := n11_
          have NB194_185 := n12_
          have NB186_194 := n13_
          have NB194_186 := n14_
          clear n0_ n1_ n2_ n3_ n4_ n5_ n6_ n7_ n8_ n9_ n10_ n11_ n12_ n13_ n14_
          clear hb hbox hg
          refine hK.out _ _ ⟨(bc_ BK185.out 0).trans rfl, (bc_ BK185.out 1).trans rfl, (bc_ BK185.out 2).trans rfl, (bc_ BK185.out 3).trans rfl, (bc_ BK185.out 4).trans rfl, (bc_ BK184.out 0).trans rfl, (bc_ BK184.out 1).trans rfl, (bc_ BK184.out 2).trans rfl⟩ (fun hHeld => ?_)
          clear hK K
          refine norm_ (a' := ?_) ?_ ?_
          rotate_left
          ·
           show Act.put _ (some 9) _ = _
           simp only [Act.put, lt1_, lt2_, lt3_, i64_w, i32_w]
           rfl
          refine one_ (i := 6) (N := some 59) #[true, true, true, true, true, true, true, false, true, false] rfl rfl (one_of HT_.out (by kernel_rfl)) (by decide) (fun K hK => ?_)
          refine goes_ Try.func29 (by kernel_rfl) rfl #[.slice A0_2 l0_2.length c0_2] (by rfl) rfl rfl au_ ?_
          with_reducible refine (replica_copied.calls kj2 (fun k_ => ((((P0_2_ k_ ∨ P1_3_ k_) ∨ w.heap.size ≤ k_) ∧ (k_ ≠ gb184 ∧ (k_ ≠ gb185 ∧ k_ ≠ gb186))) ∧ k_ ≠ gb194)) _ _ l0_2 t191 _ ?side1 A43.out).mono ?_
          (case side1 => exact HO_185002.out)
          rintro e w131 ⟨v192, rfl, ho0, hb⟩
          refine ⟨_, rfl, ?_⟩
          have n0_ := am_ (Kd.V_elder' (pV_ HO_185002.out) (Kd.N_base ho0) hb)
          have n1_ := am_ (Kd.V_elder' (pV_ HO_186003.out) (Kd.N_base ho0) hb)
          have n2_ := am_ (nl_ (nm_ (ok' := fun k_ => ((P0_2_ k_ ∨ P1_3_ k_) ∨ w.heap.size ≤ k_) ∧ k_ ≠ gb184 ∧ k_ ≠ gb185 ∧ k_ ≠ gb186 ∧ k_ ≠ gb194) ho0 (fun k_ hk_ => ⟨Or.elim hk_ (fun hs_ => hs_.1.1) (fun hn_ => (.inr (Nat.le_trans (bz_ (pb4_ HB.out GE184.out GE185.out GE186.out GE194.out)) hn_))), Or.elim hk_ (fun hs_ => hs_.1.2.1) (fun hn_ => (fb_ (g := gb184) (o := .cells #[.int .i64 a0_0, .int .i64 a0_1, .slice A0_2 l0_2.length c0_2] 35 (0, 0)) (pk_ BK184.out) k_ hn_)), Or.elim hk_ (fun hs_ => hs_.1.2.2.1) (fun hn_ => (fb_ (g := gb185) (o := .cells #[.int .i64 a1_0, .int .i64 a1_1, .int .i64 a1_2, .slice A1_3 l1_3.length c1_3, .int .i64 a1_4] 30 (0, 0)) (pk_ BK185.out) k_ hn_)), Or.elim hk_ (fun hs_ => hs_.1.2.2.2) (fun hn_ => (fb_ (g := gb186) (o := .cells #[.int .i64 0, .int .i64 0, .slice none 0 0] 35 (0, 0)) (pk_ BK186.out) k_ hn_)), Or.elim hk_ (fun hs_ => hs_.2) (fun hn_ => (fb_ (g := gb194) (o := .cells #[.int .i64 0, .int .i64 0, .slice none 0 0] 35 (0, 0)) (pk_ BK194.out) k_ hn_))⟩)) (bz_ (pb4_ HB.out GE184.out GE185.out GE186.out GE194.out)))
          have n3_ := am_ (bw_ (g := gb184) (o := .cells #[.int .i64 a0_0, .int .i64 a0_1, .slice A0_2 l0_2.length c0_2] 35 (0, 0)) (pk_ BK184.out) hb)
          have n4_ := am_ (bw_ (g := gb185) (o := .cells #[.int .i64 a1_0, .int .i64 a1_1, .int .i64 a1_2, .slice A1_3 l1_3.length c1_3, .int .i64 a1_4] 30 (0, 0)) (pk_ BK185.out) hb)
          have n5_ := am_ (bw_ (g := gb186) (o := .cells #[.int .i64 0, .int .i64 0, .slice none 0 0] 35 (0, 0)) (pk_ BK186.out) hb)
          have n6_ := am_ (bw_ (g := gb194) (o := .cells #[.int .i64 0, .int .i64 0, .slice none 0 0] 35 (0, 0)) (pk_ BK194.out) hb)
          have n7_ := am_ (sp_ (pb4_ HB.out GE184.out GE185.out GE186.out GE194.out) hb)
          clear HO_185002
          clear HO_186003
          clear BK184
          clear BK185
          clear BK186
          clear BK194
          clear HB
          have HO_185002 := n0_
          have HO_186003 := n1_
          have HO193 := n2_
          have BK184 := n3_
          have BK185 := n4_
          have BK186 := n5_
          have BK194 := n6_
          have HB := n7_
          clear n0_ n1_ n2_ n3_ n4_ n5_ n6_ n7_
          (try clear hb)
          (try clear hb2)
          (try clear hk)
          (try clear hi)
          (try clear ho0)
          obtain ⟨Ao132, co132, eo132⟩ := Kd.N_slice HO193.out
          (first | subst eo132 | (injection eo132 with f1_ f2_ f3_; have f4_ := f1_.symm; have f5_ := f3_.symm; clear f1_ f2_ f3_; subst f4_; subst f5_))
          refine hK.out _ _ ⟨(bc_ BK185.out 0).trans rfl, (bc_ BK185.out 1).trans rfl, (bc_ BK185.out 2).trans rfl, (bc_ BK185.out 3).trans rfl, (bc_ BK185.out 4).trans rfl, (bc_ BK184.out 0).trans rfl, (bc_ BK184.out 1).trans rfl, (bc_ BK184.out 2).trans rfl⟩ (fun hHeld => ?_)
          clear hK K
          refine norm_ (a' := ?_) ?_ ?_
          rotate_left
          ·
           show Act.put _ (some 59) _ = _
           simp only [Act.put, lt1_, lt2_, lt3_, i64_w, i32_w]
           rfl
          refine pure_ (i := 7) (N := some 60) (v := ?_) (a' := ?_) #[true, true, true, true, true, true, true, true, true, false] rfl rfl (any_of HT_.out (by kernel_rfl)) (fun _ _ _ h => h) (Or.inl ⟨by rfl, ?_⟩) ?_ ?_
          rotate_left
          ·
           intro w'
           go_simp
           with_reducible rfl
          rotate_left
          ·
           simp only [Act.put, lt1_, lt2_, lt3_, i64_w, i32_w]
           rfl
          exact norm_ (by simp only [putAll, Act.put, lt1_, lt2_, lt3_]) (hCont (.slice Ao132 t191.length co132, gb194) _ ⟨hHeld, (pN_ HO193.out), (by (with_reducible repeat (first | apply va_ | apply vn_ | apply vd_)); exact vm_ HO_185002.out (fun _ hk => ⟨hk.1.1.1, ⟨hk.2, ⟨hk.1.1.2.1, ⟨hk.1.1.2.2.1, ⟨hk.1.1.2.2.2, hk.1.2⟩⟩⟩⟩⟩)), (by (with_reducible repeat (first | apply va_ | apply vn_ | apply vd_)); exact vm_ HO_186003.out (fun _ hk => ⟨hk.1.1.1, ⟨hk.2, ⟨hk.1.1.2.1, ⟨hk.1.1.2.2.1, ⟨hk.1.1.2.2.2, hk.1.2⟩⟩⟩⟩⟩)), (pk_ BK184.out), (pk_ BK185.out), (pk_ BK186.out), (pk_ BK194.out), GW194.out, GE194.out, NB184_194.out, NB194_184.out, NB185_194.out, NB194_185.out, NB186_194.out, NB194_186.out, (pb4_ HB.out GE184.out GE185.out GE186.out GE194.out)⟩)
        rintro ⟨v192, gb194⟩ w133 ⟨hS_, h0_, h1_, h2_, h3_, h4_, h5_, h6_, h7_, h8_, h9_, h10_, h11_, h12_, h13_, h14_, h15_⟩
        have n0_ : Aside0 (Kd.N k87 87 w133 w.heap.size (fun k_ => ((P0_2_ k_ ∨ P1_3_ k_) ∨ w.heap.size ≤ k_) ∧ k_ ≠ gb184 ∧ k_ ≠ gb185 ∧ k_ ≠ gb186 ∧ k_ ≠ gb194) v192 t191) := ⟨h0_⟩
        have n1_ : Aside0 (Kd.V k87 87 w133 w.heap.size (fun k_ => ((P0_2_ k_ ∨ P1_3_ k_) ∨ w.heap.size ≤ k_) ∧ some k_ ≠ (v192 : Value).ownBlock ∧ k_ ≠ gb184 ∧ k_ ≠ gb185 ∧ k_ ≠ gb186 ∧ k_ ≠ gb194) (.slice A0_2 l0_2.length c0_2) l0_2) := ⟨h1_⟩
        have n2_ : Aside0 (Kd.V k87 87 w133 w.heap.size (fun k_ => ((P0_2_ k_ ∨ P1_3_ k_) ∨ w.heap.size ≤ k_) ∧ some k_ ≠ (v192 : Value).ownBlock ∧ k_ ≠ gb184 ∧ k_ ≠ gb185 ∧ k_ ≠ gb186 ∧ k_ ≠ gb194) (.slice A1_3 l1_3.length c1_3) l1_3) := ⟨h2_⟩
        have n3_ : Aside0 (w133.heap[gb184]? = some (.cells #[.int .i64 a0_0, .int .i64 a0_1, .slice A0_2 l0_2.length c0_2] 35 (0, 0))) := ⟨h3_⟩
        have n4_ : Aside0 (w133.heap[gb185]? = some (.cells #[.int .i64 a1_0, .int .i64 a1_1, .int .i64 a1_2, .slice A1_3 l1_3.length c1_3, .int .i64 a1_4] 30 (0, 0))) := ⟨h4_⟩
        have n5_ : Aside0 (w133.heap[gb186]? = some (.cells #[.int .i64 0, .int .i64 0, .slice none 0 0] 35 (0, 0))) := ⟨h5_⟩
        have n6_ : Aside0 (w133.heap[gb194]? = some (.cells #[.int .i64 0, .int .i64 0, .slice none 0 0] 35 (0, 0))) := ⟨h6_⟩
        have n7_ : Aside0 (w.heap.size ≤ gb194) := ⟨h7_⟩
        have n8_ : Aside0 (w.heap.size ≤ gb194) := ⟨h8_⟩
        have n9_ : Aside0 (gb184 ≠ gb194) := ⟨h9_⟩
        have n10_ : Aside0 (gb194 ≠ gb184) := ⟨h10_⟩
        have n11_ : Aside0 (gb185 ≠ gb194) := ⟨h11_⟩
        have n12_ : Aside0 (gb194 ≠ gb185) := ⟨h12_⟩
        have n13_ : Aside0 (gb186 ≠ gb194) := ⟨h13_⟩
        have n14_ : Aside0 (gb194 ≠ gb186) := ⟨h14_⟩
        have n15_ : Aside0 (Below w.heap.size w w133) := ⟨h15_⟩
        clear HO_185002
        clear HO_186003
        clear BK184
        clear BK185
        clear BK186
        clear HB
        clear h0_ h1_ h2_ h3_ h4_ h5_ h6_ h7_ h8_ h9_ h10_ h11_ h12_ h13_ h14_ h15_
        have HO193 := n0_
        have HO_185002 := n1_
        have HO_186003 := n2_
        have BK184 := n3_
        have BK185 := n4_
        have BK186 := n5_
        have BK194 := n6_
        have GW194 := n7_
        have GE194 := n8_
        have NB184_194 := n9_
        have NB194_184 := n10_
        have NB185_194 := n11_
        have NB194_185 := n12_
        have NB186_194 := n13_
        have NB194_186 := n14_
        have HB := n15_
        clear n0_ n1_ n2_ n3_ n4_ n5_ n6_ n7_ n8_ n9_ n10_ n11_ n12_ n13_ n14_ n15_
        have hHeld : w133.cell? ⟨gb185, 0, none⟩ = some (.int .i64 a1_0) ∧ w133.cell? ⟨gb185, 1, none⟩ = some (.int .i64 a1_1) ∧ w133.cell? ⟨gb185, 2, none⟩ = some (.int .i64 a1_2) ∧ w133.cell? ⟨gb185, 3, none⟩ = some (.slice A1_3 l1_3.length c1_3) ∧ w133.cell? ⟨gb185, 4, none⟩ = some (.int .i64 a1_4) ∧ w133.cell? ⟨gb184, 0, none⟩ = some (.int .i64 a0_0) ∧ w133.cell? ⟨gb184, 1, none⟩ = some (.int .i64 a0_1) ∧ w133.cell? ⟨gb184, 2, none⟩ = some (.slice A0_2 l0_2.length c0_2) := hS_
        obtain ⟨Ao134, co134, eo134⟩ := Kd.N_slice HO193.out
        (first | subst eo134 | (injection eo134 with f1_ f2_ f3_; have f4_ := f1_.symm; have f5_ := f3_.symm; clear f1_ f2_ f3_; subst f4_; subst f5_))
        refine norm_ (a' := ?_) ?_ ?_
        rotate_left
        ·
         simp only [putAll, Act.put, lt1_, lt2_, lt3_]
         rfl
        refine one_ (i := 9) (N := none) #[true, true, true, true, true, true, true, true, true, true] rfl rfl (one_of HT_.out (by kernel_rfl)) (by decide) (fun K hK => ?_)
        have hs135 : w133.cell? ⟨gb194, 0, none⟩ = some (.int .i64 0) := (bc_ BK194.out 0).trans rfl
        have hfs135 := bf_ BK194.out 0
        have hns135_0 := NB184_194.out
        have hns135_1 := NB185_194.out
        have hns135_2 := NB186_194.out
        have hms135_0 := NB194_184.out
        have hms135_1 := NB194_185.out
        have hms135_2 := NB194_186.out
        have hs136 : w133.cell? ⟨gb194, 1, none⟩ = some (.int .i64 0) := (bc_ BK194.out 1).trans rfl
        have hfs136 := bf_ BK194.out 1
        have hns136_0 := NB184_194.out
        have hns136_1 := NB185_194.out
        have hns136_2 := NB186_194.out
        have hms136_0 := NB194_184.out
        have hms136_1 := NB194_185.out
        have hms136_2 := NB194_186.out
        have hs137 : w133.cell? ⟨gb194, 2, none⟩ = some (.slice none 0 0) := (bc_ BK194.out 2).trans rfl
        have hfs137 := bf_ BK194.out 2
        have hns137_0 := NB184_194.out
        have hns137_1 := NB185_194.out
        have hns137_2 := NB186_194.out
        have hms137_0 := NB194_184.out
        have hms137_1 := NB194_185.out
        have hms137_2 := NB194_186.out
        refine skip_ (w1 := ?_) (by rfl) rfl ?_ ?_
        rotate_left
        ·
         go_simp
         rfl
        refine hK.out _ _ ⟨((cell_far (p := ⟨gb194, _, none⟩) NB185_194.out _).trans (((cell_far (p := ⟨gb194, _, none⟩) NB185_194.out _).trans (((cell_far (p := ⟨gb194, _, none⟩) NB185_194.out _).trans (hHeld.1)))))), ((cell_far (p := ⟨gb194, _, none⟩) NB185_194.out _).trans (((cell_far (p := ⟨gb194, _, none⟩) NB185_194.out _).trans (((cell_far (p := ⟨gb194, _, none⟩) NB185_194.out _).trans (hHeld.2.1)))))), ((cell_far (p := ⟨gb194, _, none⟩) NB185_194.out _).trans (((cell_far (p := ⟨gb194, _, none⟩) NB185_194.out _).trans (((cell_far (p := ⟨gb194, _, none⟩) NB185_194.out _).trans (hHeld.2.2.1)))))), ((cell_far (p := ⟨gb194, _, none⟩) NB185_194.out _).trans (((cell_far (p := ⟨gb194, _, none⟩) NB185_194.out _).trans (((cell_far (p := ⟨gb194, _, none⟩) NB185_194.out _).trans (hHeld.2.2.2.1)))))), ((cell_far (p := ⟨gb194, _, none⟩) NB185_194.out _).trans (((cell_far (p := ⟨gb194, _, none⟩) NB185_194.out _).trans (((cell_far (p := ⟨gb194, _, none⟩) NB185_194.out _).trans (hHeld.2.2.2.2.1)))))), ((cell_far (p := ⟨gb194, _, none⟩) NB184_194.out _).trans (((cell_far (p := ⟨gb194, _, none⟩) NB184_194.out _).trans (((cell_far (p := ⟨gb194, _, none⟩) NB184_194.out _).trans (hHeld.2.2.2.2.2.1)))))), ((cell_far (p := ⟨gb194, _, none⟩) NB184_194.out _).trans (((cell_far (p := ⟨gb194, _, none⟩) NB184_194.out _).trans (((cell_far (p := ⟨gb194, _, none⟩) NB184_194.out _).trans (hHeld.2.2.2.2.2.2.1)))))), ((cell_far (p := ⟨gb194, _, none⟩) NB184_194.out _).trans (((cell_far (p := ⟨gb194, _, none⟩) NB184_194.out _).trans (((cell_far (p := ⟨gb194, _, none⟩) NB184_194.out _).trans (hHeld.2.2.2.2.2.2.2))))))⟩ (fun hHeld => ?_)
        clear hK K
        refine done_ (done_of HT_.out (by kernel_rfl)) ?_
        have hnb138 := NB184_194.out
        have hnc138 := NB194_184.out
        have hcz139_0 : w133.cell? ⟨gb184, 0, none⟩ = some (.int .i64 a0_0) := (bc_ BK184.out 0).trans rfl
        have hcz139_1 : w133.cell? ⟨gb184, 1, none⟩ = some (.int .i64 a0_1) := (bc_ BK184.out 1).trans rfl
        have hcz139_2 : w133.cell? ⟨gb184, 2, none⟩ = some (.slice A0_2 l0_2.length c0_2) := (bc_ BK184.out 2).trans rfl
        have hfz139_0 := bf_ BK184.out 0
        have hfz139_1 := bf_ BK184.out 1
        have hfz139_2 := bf_ BK184.out 2
        have hnb140 := NB185_194.out
        have hnc140 := NB194_185.out
        have hcz141_0 : w133.cell? ⟨gb185, 0, none⟩ = some (.int .i64 a1_0) := (bc_ BK185.out 0).trans rfl
        have hcz141_1 : w133.cell? ⟨gb185, 1, none⟩ = some (.int .i64 a1_1) := (bc_ BK185.out 1).trans rfl
        have hcz141_2 : w133.cell? ⟨gb185, 2, none⟩ = some (.int .i64 a1_2) := (bc_ BK185.out 2).trans rfl
        have hcz141_3 : w133.cell? ⟨gb185, 3, none⟩ = some (.slice A1_3 l1_3.length c1_3) := (bc_ BK185.out 3).trans rfl
        have hcz141_4 : w133.cell? ⟨gb185, 4, none⟩ = some (.int .i64 a1_4) := (bc_ BK185.out 4).trans rfl
        have hfz141_0 := bf_ BK185.out 0
        have hfz141_1 := bf_ BK185.out 1
        have hfz141_2 := bf_ BK185.out 2
        have hfz141_3 := bf_ BK185.out 3
        have hfz141_4 := bf_ BK185.out 4
        have hnb142 := NB194_186.out
        have hnc142 := NB186_194.out
        have hcz143_0 : w133.cell? ⟨gb194, 0, none⟩ = some (.int .i64 0) := (bc_ BK194.out 0).trans rfl
        have hcz143_1 : w133.cell? ⟨gb194, 1, none⟩ = some (.int .i64 0) := (bc_ BK194.out 1).trans rfl
        have hcz143_2 : w133.cell? ⟨gb194, 2, none⟩ = some (.slice none 0 0) := (bc_ BK194.out 2).trans rfl
        have hfz143_0 := bf_ BK194.out 0
        have hfz143_1 := bf_ BK194.out 1
        have hfz143_2 := bf_ BK194.out 2
        have hcz144_0 : w133.cell? ⟨gb186, 0, none⟩ = some (.int .i64 0) := (bc_ BK186.out 0).trans rfl
        have hcz144_1 : w133.cell? ⟨gb186, 1, none⟩ = some (.int .i64 0) := (bc_ BK186.out 1).trans rfl
        have hcz144_2 : w133.cell? ⟨gb186, 2, none⟩ = some (.slice none 0 0) := (bc_ BK186.out 2).trans rfl
        have hfz144_0 := bf_ BK186.out 0
        have hfz144_1 := bf_ BK186.out 1
        have hfz144_2 := bf_ BK186.out 2
        try go_wp2
        refine bodyPost_ret (results_ctt rfl _ _ gb186 35 #[.int .i64 a1_0, .int .i64 ji117, .slice Ao134 t191.length co134] (0, 0) _ rfl (by (with_reducible repeat (first | refine bn_ ?_ _ | refine bd_ ?_ | refine ba_ ?_ _)); refine blk_put (cs := #[.int .i64 a1_0, .int .i64 ji117, .slice none 0 0]) ?_ 2 _ rfl; (with_reducible repeat (first | refine bn_ ?_ _ | refine bd_ ?_ | refine ba_ ?_ _)); refine blk_put (cs := #[.int .i64 a1_0, .int .i64 0, .slice none 0 0]) ?_ 1 _ rfl; (with_reducible repeat (first | refine bn_ ?_ _ | refine bd_ ?_ | refine ba_ ?_ _)); refine blk_put (cs := #[.int .i64 0, .int .i64 0, .slice none 0 0]) ?_ 0 _ rfl; (with_reducible repeat (first | refine bn_ ?_ _ | refine bd_ ?_ | refine ba_ ?_ _)); refine blk_far ?_ NB186_194.out _; (with_reducible repeat (first | refine bn_ ?_ _ | refine bd_ ?_ | refine ba_ ?_ _)); refine blk_far ?_ NB186_194.out _; (with_reducible repeat (first | refine bn_ ?_ _ | refine bd_ ?_ | refine ba_ ?_ _)); refine blk_far ?_ NB186_194.out _; (with_reducible repeat (first | refine bn_ ?_ _ | refine bd_ ?_ | refine ba_ ?_ _)); refine blk_far ?_ NB186_194.out _; (with_reducible repeat (first | refine bn_ ?_ _ | refine bd_ ?_ | refine ba_ ?_ _)); exact BK186.out) Try.underlying35 rfl (by kernel_rfl)) rfl ?_
        exact ⟨_, by first | rfl | (simp [errW_none, errW_some] <;> rfl) | (simp only [← hji116, ← hji117]; first | rfl | (simp [errW_none, errW_some] <;> rfl)) | (simp [*, errW_none, errW_some] <;> rfl), by (with_reducible repeat (first | apply na_ | apply nn_ | apply nd_)); exact nm_ (nf_ (p := ⟨gb186, 2, none⟩) (nf_ (p := ⟨gb186, 1, none⟩) (nf_ (p := ⟨gb186, 0, none⟩) (nf_ (p := ⟨gb194, 1, none⟩) (nf_ (p := ⟨gb194, 2, none⟩) (nf_ (p := ⟨gb194, 1, none⟩) (nf_ (p := ⟨gb194, 0, none⟩) (nm_ (nm_ HO193.out (fun k_ hk => (⟨hk, hk.2.2.2.2⟩ : _ ∧ k_ ≠ gb194))) (fun k_ hk => (⟨hk, hk.1.2.2.2.1⟩ : _ ∧ k_ ≠ gb186))) (fun _ hk => hk.1.2) (.int .i64 a1_0)) (fun _ hk => hk.1.2) (.int .i64 a0_1)) (fun _ hk => hk.1.2) (.slice Ao134 t191.length co134)) (fun _ hk => hk.1.2) (.int .i64 ji117)) (fun _ hk => hk.2) (.int .i64 a1_0)) (fun _ hk => hk.2) (.int .i64 ji117)) (fun _ hk => hk.2) (.slice Ao134 t191.length co134)) (fun _ hk => hk.1.1.1), pb4_ HB.out GE184.out GE185.out GE186.out GE194.out⟩
      ·
       rw [if_neg c41] at H
       have c41b0 : (t189 == a1_2) = false := beq_eq_false_iff_ne.mpr c41
       have c41b1 : (t189 != a1_2) = true := bne_iff_ne.mpr c41
       simp only [Option.some.injEq, Prod.mk.injEq] at H
       obtain ⟨rfl, rfl, rfl, rfl, rfl⟩ := H
       have hnb145 := NB185_184.out
       have hnc145 := NB184_185.out
       have hnb146 := NB185_186.out
       have hnc146 := NB186_185.out
       have hcz147_0 : wc.cell? ⟨gb185, 0, none⟩ = some (.int .i64 a1_0) := (bc_ BK185.out 0).trans rfl
       have hcz147_1 : wc.cell? ⟨gb185, 1, none⟩ = some (.int .i64 a1_1) := (bc_ BK185.out 1).trans rfl
       have hcz147_2 : wc.cell? ⟨gb185, 2, none⟩ = some (.int .i64 a1_2) := (bc_ BK185.out 2).trans rfl
       have hcz147_3 : wc.cell? ⟨gb185, 3, none⟩ = some (.slice A1_3 l1_3.length c1_3) := (bc_ BK185.out 3).trans rfl
       have hcz147_4 : wc.cell? ⟨gb185, 4, none⟩ = some (.int .i64 a1_4) := (bc_ BK185.out 4).trans rfl
       have hfz147_0 := bf_ BK185.out 0
       have hfz147_1 := bf_ BK185.out 1
       have hfz147_2 := bf_ BK185.out 2
       have hfz147_3 := bf_ BK185.out 3
       have hfz147_4 := bf_ BK185.out 4
       have hnb148 := NB184_186.out
       have hnc148 := NB186_184.out
       have hcz149_0 : wc.cell? ⟨gb184, 0, none⟩ = some (.int .i64 a0_0) := (bc_ BK184.out 0).trans rfl
       have hcz149_1 : wc.cell? ⟨gb184, 1, none⟩ = some (.int .i64 a0_1) := (bc_ BK184.out 1).trans rfl
       have hcz149_2 : wc.cell? ⟨gb184, 2, none⟩ = some (.slice A0_2 l0_2.length c0_2) := (bc_ BK184.out 2).trans rfl
       have hfz149_0 := bf_ BK184.out 0
       have hfz149_1 := bf_ BK184.out 1
       have hfz149_2 := bf_ BK184.out 2
       try go_wp2
       have n0_ := am_ (vd_ HO_185002.out)
       have n1_ := am_ (vd_ HO_186003.out)
       have n2_ := am_ (bd_ BK184.out)
       have n3_ := am_ (bd_ BK185.out)
       have n4_ := am_ (bd_ BK186.out)
       have n5_ := am_ (b1_ HB.out)
       clear HO_185002
       clear HO_186003
       clear BK184
       clear BK185
       clear BK186
       clear HB
       have HO_185002 := n0_
       have HO_186003 := n1_
       have BK184 := n2_
       have BK185 := n3_
       have BK186 := n4_
       have HB := n5_
       clear n0_ n1_ n2_ n3_ n4_ n5_
       refine start_ (n := 16) (S := fun w' => w'.cell? ⟨gb184, 0, none⟩ = some (.int .i64 a0_0) ∧ w'.cell? ⟨gb184, 1, none⟩ = some (.int .i64 a0_1) ∧ w'.cell? ⟨gb184, 2, none⟩ = some (.slice A0_2 l0_2.length c0_2) ∧ w'.cell? ⟨gb185, 0, none⟩ = some (.int .i64 a1_0) ∧ w'.cell? ⟨gb185, 1, none⟩ = some (.int .i64 a1_1) ∧ w'.cell? ⟨gb185, 2, none⟩ = some (.int .i64 a1_2) ∧ w'.cell? ⟨gb185, 3, none⟩ = some (.slice A1_3 l1_3.length c1_3) ∧ w'.cell? ⟨gb185, 4, none⟩ = some (.int .i64 a1_4)) (ds := []) #[false, false, false, false, false, false, false, false, false, false, false, false, false, false, false, false] (by kernel_rfl) rfl rfl ⟨(bc_ BK184.out 0).trans rfl, (bc_ BK184.out 1).trans rfl, (bc_ BK184.out 2).trans rfl, (bc_ BK185.out 0).trans rfl, (bc_ BK185.out 1).trans rfl, (bc_ BK185.out 2).trans rfl, (bc_ BK185.out 3).trans rfl, (bc_ BK185.out 4).trans rfl⟩ (fun hHeld => ?_); refine with_tabW replica_Accept.tab5 replica_Accept.bits5 (fun HT_ HW_ => ?_)
       generalize wc.drew = w150 at HO_185002 HO_186003 BK184 BK185 BK186 HB hHeld ⊢
       refine pure_ (i := 0) (N := some 28) (v := ?_) (a' := ?_) #[true, false, false, false, false, false, false, false, false, false, false, false, false, false, false, false] rfl rfl (any_of HT_.out (by kernel_rfl)) (fun _ _ _ h => h) (Or.inl ⟨by rfl, ?_⟩) ?_ ?_
       rotate_left
       ·
        intro w'
        go_simp
        with_reducible rfl
       rotate_left
       ·
        simp only [Act.put, lt1_, lt2_, lt3_, i64_w, i32_w]
        rfl
       refine pure_ (i := 3) (N := some 31) (v := ?_) (a' := ?_) #[true, false, false, true, false, false, false, false, false, false, false, false, false, false, false, false] rfl rfl (any_of HT_.out (by kernel_rfl)) (fun _ _ _ h => h) (Or.inl ⟨by rfl, ?_⟩) ?_ ?_
       rotate_left
       ·
        intro w'
        go_simp
        with_reducible rfl
       rotate_left
       ·
        simp only [Act.put, lt1_, lt2_, lt3_, i64_w, i32_w]
        rfl
       refine take_ (i := 1) (N := some 29) (v := ?_) (a' := ?_) #[true, true, false, true, false, false, false, false, false, false, false, false, false, false, false, false] rfl rfl (take_ofW HT_.out HW_.out (by kernel_rfl)) (fun _ _ _ h => h) (Or.inl ⟨by rfl, ?_⟩) hHeld ?_ ?_
       rotate_left
       ·
        rintro w' ⟨s0, s1, s2, s3, s4, s5, s6, s7⟩
        go_simp
        with_reducible rfl
       rotate_left
       ·
        simp only [Act.put, lt1_, lt2_, lt3_, i64_w, i32_w]
        rfl
       refine pure_ (i := 2) (N := some 30) (v := ?_) (a' := ?_) #[true, true, true, true, false, false, false, false, false, false, false, false, false, false, false, false] rfl rfl (any_of HT_.out (by kernel_rfl)) (fun _ _ _ h => h) (Or.inl ⟨by rfl, ?_⟩) ?_ ?_
       rotate_left
       ·
        intro w'
        go_simp
        with_reducible rfl
       rotate_left
       ·
        simp only [Act.put, lt1_, lt2_, lt3_, i64_w, i32_w]
        rfl
       refine take_ (i := 4) (N := some 32) (v := ?_) (a' := ?_) #[true, true, true, true, true, false, false, false, false, false, false, false, false, false, false, false] rfl rfl (take_ofW HT_.out HW_.out (by kernel_rfl)) (fun _ _ _ h => h) (Or.inl ⟨by rfl, ?_⟩) hHeld ?_ ?_
       rotate_left
       ·
        rintro w' ⟨s0, s1, s2, s3, s4, s5, s6, s7⟩
        go_simp
        with_reducible rfl
       rotate_left
       ·
        simp only [Act.put, lt1_, lt2_, lt3_, i64_w, i32_w]
        rfl
       refine pure_ (i := 5) (N := some 33) (v := ?_) (a' := ?_) #[true, true, true, true, true, true, false, false, false, false, false, false, false, false, false, false] rfl rfl (any_of HT_.out (by kernel_rfl)) (fun _ _ _ h => h) (Or.inl ⟨by rfl, ?_⟩) ?_ ?_
       rotate_left
       ·
        intro w'
        go_simp
        with_reducible rfl
       rotate_left
       ·
        simp only [Act.put, lt1_, lt2_, lt3_, i64_w, i32_w]
        rfl
       refine pure_ (i := 6) (N := some 34) (v := ?_) (a' := ?_) #[true, true, true, true, true, true, true, false, false, false, false, false, false, false, false, false] rfl rfl (any_of HT_.out (by kernel_rfl)) (fun _ _ _ h => h) (Or.inl ⟨by rfl, ?_⟩) ?_ ?_
       rotate_left
       ·
        intro w'
        go_simp
        with_reducible rfl
       rotate_left
       ·
        simp only [Act.put, lt1_, lt2_, lt3_, i64_w, i32_w]
        rfl
       refine pure_ (i := 8) (N := some 36) (v := ?_) (a' := ?_) #[true, true, true, true, true, true, true, false, true, false, false, false, false, false, false, false] rfl rfl (any_of HT_.out (by kernel_rfl)) (fun _ _ _ h => h) (Or.inl ⟨by rfl, ?_⟩) ?_ ?_
       rotate_left
       ·
        intro w'
        go_simp
        with_reducible rfl
       rotate_left
       ·
        simp only [Act.put, lt1_, lt2_, lt3_, i64_w, i32_w]
        rfl
       refine pure_ (i := 11) (N := some 39) (v := ?_) (a' := ?_) #[true, true, true, true, true, true, true, false, true, false, false, true, false, false, false, false] rfl rfl (any_of HT_.out (by kernel_rfl)) (fun _ _ _ h => h) (Or.inl ⟨by rfl, ?_⟩) ?_ ?_
       rotate_left
       ·
        intro w'
        go_simp
        with_reducible rfl
       rotate_left
       ·
        simp only [Act.put, lt1_, lt2_, lt3_, i64_w, i32_w]
        rfl
       refine take_ (i := 7) (N := some 35) (v := ?_) (a' := ?_) #[true, true, true, true, true, true, true, true, true, false, false, true, false, false, false, false] rfl rfl (take_ofW HT_.out HW_.out (by kernel_rfl)) (fun _ _ _ h => h) (Or.inl ⟨by rfl, ?_⟩) hHeld ?_ ?_
       rotate_left
       ·
        rintro w' ⟨s0, s1, s2, s3, s4, s5, s6, s7⟩
        go_simp
        with_reducible rfl
       rotate_left
       ·
        simp only [Act.put, lt1_, lt2_, lt3_, i64_w, i32_w]
        rfl
       refine take_ (i := 9) (N := some 37) (v := ?_) (a' := ?_) #[true, true, true, true, true, true, true, true, true, true, false, true, false, false, false, false] rfl rfl (take_ofW HT_.out HW_.out (by kernel_rfl)) (fun _ _ _ h => h) (Or.inl ⟨by rfl, ?_⟩) hHeld ?_ ?_
       rotate_left
       ·
        rintro w' ⟨s0, s1, s2, s3, s4, s5, s6, s7⟩
        go_simp
        with_reducible rfl
       rotate_left
       ·
        simp only [Act.put, lt1_, lt2_, lt3_, i64_w, i32_w]
        rfl
       refine take_ (i := 12) (N := some 40) (v := ?_) (a' := ?_) #[true, true, true, true, true, true, true, true, true, true, false, true, true, false, false, false] rfl rfl (take_ofW HT_.out HW_.out (by kernel_rfl)) (fun _ _ _ h => h) (Or.inl ⟨by rfl, ?_⟩) hHeld ?_ ?_
       rotate_left
       ·
        rintro w' ⟨s0, s1, s2, s3, s4, s5, s6, s7⟩
        go_simp
        with_reducible rfl
       rotate_left
       ·
        simp only [Act.put, lt1_, lt2_, lt3_, i64_w, i32_w]
        rfl
       refine one_ (i := 10) (N := some 38) #[true, true, true, true, true, true, true, true, true, true, true, true, true, false, false, false] rfl rfl (one_of HT_.out (by kernel_rfl)) (by decide) (fun K hK => ?_)
       refine goes_ Try.func28 (by kernel_rfl) rfl #[.agg #[.int .i64 a0_0, .int .i64 a0_1, .slice A0_2 l0_2.length c0_2], .int .i64 a1_1] (by rfl) rfl rfl au_ ?_
       with_reducible refine (replica_Node_end.calls a0_0 a0_1 _ _ l0_2 a1_1 t189 _ ?side1 ?side2 A40.out).mono ?_
       (case side1 => repeat (first | exact (Kd.V_reads' HO_185002.out).2.2 | (with_reducible refine Kd.C_alloc ?_ _) | (with_reducible refine Kd.C_drewN ?_ _) | (with_reducible refine Kd.C_drew ?_)))
       (case side2 => exact (Kd.V_reads' HO_185002.out).2.1)
       rintro e w151 ⟨rfl, hb⟩
       refine ⟨_, rfl, ?_⟩
       have n0_ := am_ (vb_ (pV_ HO_185002.out) hb)
       have n1_ := am_ (vb_ (pV_ HO_186003.out) hb)
       have n2_ := am_ (bw_ (g := gb184) (o := .cells #[.int .i64 a0_0, .int .i64 a0_1, .slice A0_2 l0_2.length c0_2] 35 (0, 0)) (pk_ BK184.out) hb)
       have n3_ := am_ (bw_ (g := gb185) (o := .cells #[.int .i64 a1_0, .int .i64 a1_1, .int .i64 a1_2, .slice A1_3 l1_3.length c1_3, .int .i64 a1_4] 30 (0, 0)) (pk_ BK185.out) hb)
       have n4_ := am_ (bw_ (g := gb186) (o := .cells #[.int .i64 0, .int .i64 0, .slice none 0 0] 35 (0, 0)) (pk_ BK186.out) hb)
       have n5_ := am_ (sp_ (pb3_ HB.out GE184.out GE185.out GE186.out) hb)
       clear HO_185002
       clear HO_186003
       clear BK184
       clear BK185
       clear BK186
       clear HB
       have HO_185002 := n0_
       have HO_186003 := n1_
       have BK184 := n2_
       have BK185 := n3_
       have BK186 := n4_
       have HB := n5_
       clear n0_ n1_ n2_ n3_ n4_ n5_
       (try clear hb)
       (try clear hb2)
       (try clear hk)
       (try clear hi)
       refine hK.out _ _ ⟨(bc_ BK184.out 0).trans rfl, (bc_ BK184.out 1).trans rfl, (bc_ BK184.out 2).trans rfl, (bc_ BK185.out 0).trans rfl, (bc_ BK185.out 1).trans rfl, (bc_ BK185.out 2).trans rfl, (bc_ BK185.out 3).trans rfl, (bc_ BK185.out 4).trans rfl⟩ (fun hHeld => ?_)
       clear hK K
       refine norm_ (a' := ?_) ?_ ?_
       rotate_left
       ·
        show Act.put _ (some 38) _ = _
        simp only [Act.put, lt1_, lt2_, lt3_, i64_w, i32_w]
        rfl
       refine pure_ (i := 13) (N := some 41) (v := ?_) (a' := ?_) #[true, true, true, true, true, true, true, true, true, true, true, true, true, true, false, false] rfl rfl (any_of HT_.out (by kernel_rfl)) (fun _ _ _ h => h) (Or.inl ⟨by rfl, ?_⟩) ?_ ?_
       rotate_left
       ·
        intro w'
        go_simp
        with_reducible rfl
       rotate_left
       ·
        simp only [Act.put, lt1_, lt2_, lt3_, i64_w, i32_w]
        rfl
       refine pure_ (i := 14) (N := some 42) (v := ?_) (a' := ?_) #[true, true, true, true, true, true, true, true, true, true, true, true, true, true, true, false] rfl rfl (any_of HT_.out (by kernel_rfl)) (fun _ _ _ h => h) (Or.inl ⟨by rfl, ?_⟩) ?_ ?_
       rotate_left
       ·
        intro w'
        go_simp
        with_reducible rfl
       rotate_left
       ·
        simp only [Act.put, lt1_, lt2_, lt3_, i64_w, i32_w]
        rfl
       refine pure_ (i := 15) (N := some 27) (v := ?_) (a' := ?_) #[true, true, true, true, true, true, true, true, true, true, true, true, true, true, true, true] rfl rfl (any_of HT_.out (by kernel_rfl)) (fun _ _ _ h => h) (Or.inl ⟨by rfl, ?_⟩) ?_ ?_
       rotate_left
       ·
        intro w'
        go_simp
        with_reducible rfl
       rotate_left
       ·
        simp only [Act.put, lt1_, lt2_, lt3_, i64_w, i32_w]
        rfl
       refine done_ (done_of HT_.out (by kernel_rfl)) ?_
       have hcz152_0 : w151.cell? ⟨gb186, 0, none⟩ = some (.int .i64 0) := (bc_ BK186.out 0).trans rfl
       have hcz152_1 : w151.cell? ⟨gb186, 1, none⟩ = some (.int .i64 0) := (bc_ BK186.out 1).trans rfl
       have hcz152_2 : w151.cell? ⟨gb186, 2, none⟩ = some (.slice none 0 0) := (bc_ BK186.out 2).trans rfl
       have hfz152_0 := bf_ BK186.out 0
       have hfz152_1 := bf_ BK186.out 1
       have hfz152_2 := bf_ BK186.out 2
       try go_wp2
       refine bodyPost_ret (results_ctt rfl _ _ gb186 35 #[.int .i64 0, .int .i64 0, .slice none 0 0] (0, 0) _ rfl (by (with_reducible repeat (first | refine bn_ ?_ _ | refine bd_ ?_ | refine ba_ ?_ _)); refine blk_put (cs := #[.int .i64 0, .int .i64 0, .slice none 0 0]) ?_ 2 _ rfl; (with_reducible repeat (first | refine bn_ ?_ _ | refine bd_ ?_ | refine ba_ ?_ _)); refine blk_put (cs := #[.int .i64 0, .int .i64 0, .slice none 0 0]) ?_ 1 _ rfl; (with_reducible repeat (first | refine bn_ ?_ _ | refine bd_ ?_ | refine ba_ ?_ _)); refine blk_put (cs := #[.int .i64 0, .int .i64 0, .slice none 0 0]) ?_ 0 _ rfl; (with_reducible repeat (first | refine bn_ ?_ _ | refine bd_ ?_ | refine ba_ ?_ _)); exact BK186.out) Try.underlying35 rfl (by kernel_rfl)) rfl ?_
       exact ⟨_, by first | rfl | (simp [errW_none, errW_some] <;> rfl) | (simp [*, errW_none, errW_some] <;> rfl), by first | exact Kd.S_nil _ _ _ _ _ | exact Kd.N_nil _ _ _ _ _ | exact Kd.V_nil _ _ _ _ _ | exact Kd.Q_nil _ _ _ _ _ | exact Kd.R_nil _ _ _ _ _, pb3_ HB.out GE184.out GE185.out GE186.out⟩
end Go.Proofs.Ytbigcpjlahkggaa.Q
