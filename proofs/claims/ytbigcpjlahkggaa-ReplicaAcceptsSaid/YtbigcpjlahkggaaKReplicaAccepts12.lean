import Derived.Test.YtbigcpjlahkggaaKReplicaAccepts11
set_option linter.unusedVariables false
set_option linter.unusedSimpArgs false
namespace Go.Proofs.Ytbigcpjlahkggaa.Q
open Go.RowKit Go.Proofs.YtbigcpjlahkggaaW.PrintWords Go.Proofs.YtbigcpjlahkggaaW.PrintLast Go.Proofs.YtbigcpjlahkggaaW.PrintMore
attribute [local go_sem] max2_int min2_int max_two min_two max_three min_three max_four min_four
attribute [local go_sem ↓] isSome_setCell
attribute [local go_sem] string_gtr
set_option linter.unusedVariables false
set_option linter.unusedSimpArgs false
mutual
def tapearchiveref26_Accept.j0 : Nat → Bool → Int → Int → List (S79) → Int → Int → Int → List (S79) → Int → Option (Int × Int × (List (S79)) × Int × Int)
 | 0, _, _, _, _, _, _, _, _, _ => none
 | k + 1, x17, x396000, x396001, x396002, x397000, x397001, x397002, x397003, x397004 => if x17 = true then (some (0, 0, ([] : List (S79)), 0, 8)) else (if x397000 < x396000 then (some (0, 0, ([] : List (S79)), 0, 22)) else (if x397001 > (x396002.length : Int) then (tapearchiveref26_Accept.j1 k true x396000 x396001 x396002 x397000 x397001 x397002 x397003 x397004) else ((tapearchiveref26_end.f x396002 x397001).bind fun t400 => (tapearchiveref26_Accept.j1 k (t400 != x397002) x396000 x396001 x396002 x397000 x397001 x397002 x397003 x397004))))
def tapearchiveref26_Accept.j1 : Nat → Bool → Int → Int → List (S79) → Int → Int → Int → List (S79) → Int → Option (Int × Int × (List (S79)) × Int × Int)
 | 0, _, _, _, _, _, _, _, _, _ => none
 | k + 1, x40, x396000, x396001, x396002, x397000, x397001, x397002, x397003, x397004 => if x40 = true then (some (0, 0, ([] : List (S79)), 0, 9)) else (tapearchiveref26_Accept.l0 k 0 x396000 x396001 x396002 x397000 x397001 x397002 x397003 x397004)
def tapearchiveref26_Accept.j3 : Nat → Int → Int → Int → List (S79) → Int → Int → Int → List (S79) → Int → Option (Int × Int × (List (S79)) × Int × Int)
 | 0, _, _, _, _, _, _, _, _, _ => none
 | k + 1, x7, x396000, x396001, x396002, x397000, x397001, x397002, x397003, x397004 => (tapearchiveref26_copied.f k x396002).bind fun t403 => (if x7 < (x397003.length : Int) then (if (wrap64 (x397001 + x7)) < x396001 then (some (0, 0, ([] : List (S79)), 0, 21)) else (if 0 ≤ (wrap64 (x397001 + x7)) then (if (wrap64 (x397001 + x7)) ≤ (t403.length : Int) then ((some (t403.take ((wrap64 (x397001 + x7)) : Int).toNat : List (S79))).bind fun y406 => (if 0 ≤ x7 then (if x7 ≤ (x397003.length : Int) then ((tapearchiveref26_copied.f k (x397003.drop (x7 : Int).toNat)).bind fun t413 => (if y406.length + t413.length < 4398046511104 then (some (x397000, mx x396001 (mn x397004 (wrap64 (x397001 + (x397003.length : Int)))), (y406 ++ t413), wrap64 (x397001 + (x397003.length : Int)), 0)) else (none))) else (none)) else (none))) else (none)) else (none))) else (some (x397000, mx x396001 (mn x397004 (wrap64 (x397001 + (x397003.length : Int)))), t403, wrap64 (x397001 + (x397003.length : Int)), 0)))
def tapearchiveref26_Accept.l0 : Nat → Int → Int → Int → List (S79) → Int → Int → Int → List (S79) → Int → Option (Int × Int × (List (S79)) × Int × Int)
 | 0, _, _, _, _, _, _, _, _, _ => none
 | k + 1, x7, x396000, x396001, x396002, x397000, x397001, x397002, x397003, x397004 => if x7 < (x397003.length : Int) then (if (wrap64 (x397001 + x7)) < (x396002.length : Int) then (if 0 ≤ (wrap64 (x397001 + x7)) then (if 0 ≤ x7 then (if ((rd_T79 x396002 (wrap64 (x397001 + x7))).f0) = ((rd_T79 x397003 x7).f0) then (tapearchiveref26_Accept.l0 k (wrap64 (x7 + 1)) x396000 x396001 x396002 x397000 x397001 x397002 x397003 x397004) else (tapearchiveref26_Accept.j3 k x7 x396000 x396001 x396002 x397000 x397001 x397002 x397003 x397004)) else (none)) else (none)) else (tapearchiveref26_Accept.j3 k x7 x396000 x396001 x396002 x397000 x397001 x397002 x397003 x397004)) else (tapearchiveref26_Accept.j3 k x7 x396000 x396001 x396002 x397000 x397001 x397002 x397003 x397004)
end
def tapearchiveref26_Accept.f (k : Nat) (a0_0 : Int) (a0_1 : Int) (l0_2 : List (S79)) (a1_0 : Int) (a1_1 : Int) (a1_2 : Int) (l1_3 : List (S79)) (a1_4 : Int) : Option (Int × Int × (List (S79)) × Int × Int) := (tapearchiveref26_valid.f k a0_0 a0_1 l0_2).bind fun t398 => (if t398 = true then ((tapearchiveref26_sound.f k a1_0 a1_1 a1_2 l1_3 a1_4).bind fun t399 => (tapearchiveref26_Accept.j0 k (!t399) a0_0 a0_1 l0_2 a1_0 a1_1 a1_2 l1_3 a1_4)) else (tapearchiveref26_Accept.j0 k true a0_0 a0_1 l0_2 a1_0 a1_1 a1_2 l1_3 a1_4))
set_option maxHeartbeats 8000000 in
set_option maxRecDepth 100000 in
theorem tapearchiveref26_Accept.calls (k : Nat) (a0_0 : Int) (a0_1 : Int) (A0_2 : Option Addr) (c0_2 : Nat) (l0_2 : List (S79)) (a1_0 : Int) (a1_1 : Int) (a1_2 : Int) (A1_3 : Option Addr) (c1_3 : Nat) (l1_3 : List (S79)) (a1_4 : Int) (r1 : Int) (r2 : Int) (r3 : List (S79)) (r4 : Int) (r5 : Int) (w : World) (hr0_2 : Kd.C k79 w A0_2 l0_2.length l0_2) (hc0_2 : l0_2.length ≤ c0_2) (hr1_3 : Kd.C k79 w A1_3 l1_3.length l1_3) (hc1_3 : l1_3.length ≤ c1_3) (h : tapearchiveref26_Accept.f k a0_0 a0_1 l0_2 a1_0 a1_1 a1_2 l1_3 a1_4 = some (r1, r2, r3, r4, r5)) :
  Calls Try.prog 19 #[.agg #[.int .i64 a0_0, .int .i64 a0_1, .slice A0_2 l0_2.length c0_2], .agg #[.int .i64 a1_0, .int .i64 a1_1, .int .i64 a1_2, .slice A1_3 l1_3.length c1_3, .int .i64 a1_4]] w fun e w' => ∃ v2_ : Value, e = .returned (.tuple #[.agg #[.int .i64 r1, .int .i64 r2, v2_], .int .i64 r4, .int .i64 r5]) ∧ Kd.N k79 79 w' w.heap.size (fun k_ => (w.heap.size ≤ k_)) v2_ r3 ∧ Below w.heap.size w w' := by
 have hu24 := Try.underlying24; have hu38 := Try.underlying38; have HR0_2 := am_ hr0_2; have HC0_2 := am_ hc0_2; clear hr0_2 hc0_2; have HR1_3 := am_ hr1_3; have HC1_3 := am_ hc1_3; clear hr1_3 hc1_3; have HB := am_ (Below.refl w.heap.size w); have H : ((tapearchiveref26_valid.f k a0_0 a0_1 l0_2).bind fun t398 => (if t398 = true then ((tapearchiveref26_sound.f k a1_0 a1_1 a1_2 l1_3 a1_4).bind fun t399 => (tapearchiveref26_Accept.j0 k (!t399) a0_0 a0_1 l0_2 a1_0 a1_1 a1_2 l1_3 a1_4)) else (tapearchiveref26_Accept.j0 k true a0_0 a0_1 l0_2 a1_0 a1_1 a1_2 l1_3 a1_4))) = some (r1, r2, r3, r4, r5) := h; clear h; have HC3 := am_ H; clear H; go_enter Try.func19, Try.ntmps19
 go_upto_region 1 with (first | ((with_reducible refine gate_dst (N := 2) rfl ?_); (try (refine gate_guard (by rfl) ?_; dsimp only)); refine box_event ?hg (N := 2) ?hd (cs := #[.int .i64 a0_0, .int .i64 a0_1, .slice A0_2 l0_2.length c0_2]) (t := 24) ?hr ?_; (case hd => rfl); (case hg => rfl); (case hr => first | (go_simp; done) | (go_simp; rfl)); intro gb395 hg w4 hbox hb; have n0_ := am_ (sp_ (pb0_ HB.out) hb); have n1_ := am_ (hbox); have n2_ := am_ ((by rw [hg]; exact (bz_ (pb0_ HB.out)) : w.heap.size ≤ gb395)); have n3_ := am_ ((by rw [hg]; exact (bz_ (pb0_ HB.out)) : w.heap.size ≤ gb395)); clear HB; have HB := n0_; have BK395 := n1_; have GW395 := n2_; have GE395 := n3_; clear n0_ n1_ n2_ n3_; clear hb hbox hg) | ((with_reducible refine gate_dst (N := 3) rfl ?_); (try (refine gate_guard (by rfl) ?_; dsimp only)); refine box_event ?hg (N := 3) ?hd (cs := #[.int .i64 a1_0, .int .i64 a1_1, .int .i64 a1_2, .slice A1_3 l1_3.length c1_3, .int .i64 a1_4]) (t := 38) ?hr ?_; (case hd => rfl); (case hg => rfl); (case hr => first | (go_simp; done) | (go_simp; rfl)); intro gb396 hg w5 hbox hb; have n0_ := am_ (bw_ (g := gb395) (o := .cells #[.int .i64 a0_0, .int .i64 a0_1, .slice A0_2 l0_2.length c0_2] 24 (0, 0)) (pk_ BK395.out) hb); have n1_ := am_ (sp_ (pb1_ HB.out GE395.out) hb); have n2_ := am_ (hbox); have n3_ := am_ ((by rw [hg]; exact (bz_ (pb1_ HB.out GE395.out)) : w.heap.size ≤ gb396)); have n4_ := am_ ((by rw [hg]; exact (bz_ (pb1_ HB.out GE395.out)) : w.heap.size ≤ gb396)); have n5_ := am_ ((by rw [hg]; exact Nat.ne_of_lt (blk_lt (g := gb395) (o := .cells #[.int .i64 a0_0, .int .i64 a0_1, .slice A0_2 l0_2.length c0_2] 24 (0, 0)) (pk_ BK395.out)) : gb395 ≠ gb396)); have n6_ := am_ ((by rw [hg]; exact Nat.ne_of_gt (blk_lt (g := gb395) (o := .cells #[.int .i64 a0_0, .int .i64 a0_1, .slice A0_2 l0_2.length c0_2] 24 (0, 0)) (pk_ BK395.out)) : gb396 ≠ gb395)); clear BK395; clear HB; have BK395 := n0_; have HB := n1_; have BK396 := n2_; have GW396 := n3_; have GE396 := n4_; have NB395_396 := n5_; have NB396_395 := n6_; clear n0_ n1_ n2_ n3_ n4_ n5_ n6_; clear hb hbox hg) | ((with_reducible refine gate_dst (N := 4) rfl ?_); (try (refine gate_guard (by rfl) ?_; dsimp only)); refine box_event ?hg (N := 4) ?hd (cs := #[.int .i64 0, .int .i64 0, .slice none 0 0]) (t := 24) ?hr ?_; (case hd => rfl); (case hg => rfl); (case hr => first | (go_simp; done) | (go_simp; rfl)); intro gb397 hg w6 hbox hb; have n0_ := am_ (bw_ (g := gb395) (o := .cells #[.int .i64 a0_0, .int .i64 a0_1, .slice A0_2 l0_2.length c0_2] 24 (0, 0)) (pk_ BK395.out) hb); have n1_ := am_ (bw_ (g := gb396) (o := .cells #[.int .i64 a1_0, .int .i64 a1_1, .int .i64 a1_2, .slice A1_3 l1_3.length c1_3, .int .i64 a1_4] 38 (0, 0)) (pk_ BK396.out) hb); have n2_ := am_ (sp_ (pb2_ HB.out GE395.out GE396.out) hb); have n3_ := am_ (hbox); have n4_ := am_ ((by rw [hg]; exact (bz_ (pb2_ HB.out GE395.out GE396.out)) : w.heap.size ≤ gb397)); have n5_ := am_ ((by rw [hg]; exact (bz_ (pb2_ HB.out GE395.out GE396.out)) : w.heap.size ≤ gb397)); have n6_ := am_ ((by rw [hg]; exact Nat.ne_of_lt (blk_lt (g := gb395) (o := .cells #[.int .i64 a0_0, .int .i64 a0_1, .slice A0_2 l0_2.length c0_2] 24 (0, 0)) (pk_ BK395.out)) : gb395 ≠ gb397)); have n7_ := am_ ((by rw [hg]; exact Nat.ne_of_gt (blk_lt (g := gb395) (o := .cells #[.int .i64 a0_0, .int .i64 a0_1, .slice A0_2 l0_2.length c0_2] 24 (0, 0)) (pk_ BK395.out)) : gb397 ≠ gb395)); have n8_ := am_ ((by rw [hg]; exact Nat.ne_of_lt (blk_lt (g := gb396) (o := .cells #[.int .i64 a1_0, .int .i64 a1_1, .int .i64 a1_2, .slice A1_3 l1_3.length c1_3, .int .i64 a1_4] 38 (0, 0)) (pk_ BK396.out)) : gb396 ≠ gb397)); have n9_ := am_ ((by rw [hg]; exact Nat.ne_of_gt (blk_lt (g := gb396) (o := .cells #[.int .i64 a1_0, .int .i64 a1_1, .int .i64 a1_2, .slice A1_3 l1_3.length c1_3, .int .i64 a1_4] 38 (0, 0)) (pk_ BK396.out)) : gb397 ≠ gb396)); clear BK395; clear BK396; clear HB; have BK395 := n0_; have BK396 := n1_; have HB := n2_; have BK397 := n3_; have GW397 := n4_; have GE397 := n5_; have NB395_397 := n6_; have NB397_395 := n7_; have NB396_397 := n8_; have NB397_396 := n9_; clear n0_ n1_ n2_ n3_ n4_ n5_ n6_ n7_ n8_ n9_; clear hb hbox hg))
 repeat (go_quiet (first | ((with_reducible refine gate_dst (N := 2) rfl ?_); (try (refine gate_guard (by rfl) ?_; dsimp only)); refine box_event ?hg (N := 2) ?hd (cs := #[.int .i64 a0_0, .int .i64 a0_1, .slice A0_2 l0_2.length c0_2]) (t := 24) ?hr ?_; (case hd => rfl); (case hg => rfl); (case hr => first | (go_simp; done) | (go_simp; rfl)); intro gb395 hg w4 hbox hb; have n0_ := am_ (sp_ (pb0_ HB.out) hb); have n1_ := am_ (hbox); have n2_ := am_ ((by rw [hg]; exact (bz_ (pb0_ HB.out)) : w.heap.size ≤ gb395)); have n3_ := am_ ((by rw [hg]; exact (bz_ (pb0_ HB.out)) : w.heap.size ≤ gb395)); clear HB; have HB := n0_; have BK395 := n1_; have GW395 := n2_; have GE395 := n3_; clear n0_ n1_ n2_ n3_; clear hb hbox hg) | ((with_reducible refine gate_dst (N := 3) rfl ?_); (try (refine gate_guard (by rfl) ?_; dsimp only)); refine box_event ?hg (N := 3) ?hd (cs := #[.int .i64 a1_0, .int .i64 a1_1, .int .i64 a1_2, .slice A1_3 l1_3.length c1_3, .int .i64 a1_4]) (t := 38) ?hr ?_; (case hd => rfl); (case hg => rfl); (case hr => first | (go_simp; done) | (go_simp; rfl)); intro gb396 hg w5 hbox hb; have n0_ := am_ (bw_ (g := gb395) (o := .cells #[.int .i64 a0_0, .int .i64 a0_1, .slice A0_2 l0_2.length c0_2] 24 (0, 0)) (pk_ BK395.out) hb); have n1_ := am_ (sp_ (pb1_ HB.out GE395.out) hb); have n2_ := am_ (hbox); have n3_ := am_ ((by rw [hg]; exact (bz_ (pb1_ HB.out GE395.out)) : w.heap.size ≤ gb396)); have n4_ := am_ ((by rw [hg]; exact (bz_ (pb1_ HB.out GE395.out)) : w.heap.size ≤ gb396)); have n5_ := am_ ((by rw [hg]; exact Nat.ne_of_lt (blk_lt (g := gb395) (o := .cells #[.int .i64 a0_0, .int .i64 a0_1, .slice A0_2 l0_2.length c0_2] 24 (0, 0)) (pk_ BK395.out)) : gb395 ≠ gb396)); have n6_ := am_ ((by rw [hg]; exact Nat.ne_of_gt (blk_lt (g := gb395) (o := .cells #[.int .i64 a0_0, .int .i64 a0_1, .slice A0_2 l0_2.length c0_2] 24 (0, 0)) (pk_ BK395.out)) : gb396 ≠ gb395)); clear BK395; clear HB; have BK395 := n0_; have HB := n1_; have BK396 := n2_; have GW396 := n3_; have GE396 := n4_; have NB395_396 := n5_; have NB396_395 := n6_; clear n0_ n1_ n2_ n3_ n4_ n5_ n6_; clear hb hbox hg) | ((with_reducible refine gate_dst (N := 4) rfl ?_); (try (refine gate_guard (by rfl) ?_; dsimp only)); refine box_event ?hg (N := 4) ?hd (cs := #[.int .i64 0, .int .i64 0, .slice none 0 0]) (t := 24) ?hr ?_; (case hd => rfl); (case hg => rfl); (case hr => first | (go_simp; done) | (go_simp; rfl)); intro gb397 hg w6 hbox hb; have n0_ := am_ (bw_ (g := gb395) (o := .cells #[.int .i64 a0_0, .int .i64 a0_1, .slice A0_2 l0_2.length c0_2] 24 (0, 0)) (pk_ BK395.out) hb); have n1_ := am_ (bw_ (g := gb396) (o := .cells #[.int .i64 a1_0, .int .i64 a1_1, .int .i64 a1_2, .slice A1_3 l1_3.length c1_3, .int .i64 a1_4] 38 (0, 0)) (pk_ BK396.out) hb); have n2_ := am_ (sp_ (pb2_ HB.out GE395.out GE396.out) hb); have n3_ := am_ (hbox); have n4_ := am_ ((by rw [hg]; exact (bz_ (pb2_ HB.out GE395.out GE396.out)) : w.heap.size ≤ gb397)); have n5_ := am_ ((by rw [hg]; exact (bz_ (pb2_ HB.out GE395.out GE396.out)) : w.heap.size ≤ gb397)); have n6_ := am_ ((by rw [hg]; exact Nat.ne_of_lt (blk_lt (g := gb395) (o := .cells #[.int .i64 a0_0, .int .i64 a0_1, .slice A0_2 l0_2.length c0_2] 24 (0, 0)) (pk_ BK395.out)) : gb395 ≠ gb397)); have n7_ := am_ ((by rw [hg]; exact Nat.ne_of_gt (blk_lt (g := gb395) (o := .cells #[.int .i64 a0_0, .int .i64 a0_1, .slice A0_2 l0_2.length c0_2] 24 (0, 0)) (pk_ BK395.out)) : gb397 ≠ gb395)); have n8_ := am_ ((by rw [hg]; exact Nat.ne_of_lt (blk_lt (g := gb396) (o := .cells #[.int .i64 a1_0, .int .i64 a1_1, .int .i64 a1_2, .slice A1_3 l1_3.length c1_3, .int .i64 a1_4] 38 (0, 0)) (pk_ BK396.out)) : gb396 ≠ gb397)); have n9_ := am_ ((by rw [hg]; exact Nat.ne_of_gt (blk_lt (g := gb396) (o := .cells #[.int .i64 a1_0, .int .i64 a1_1, .int .i64 a1_2, .slice A1_3 l1_3.length c1_3, .int .i64 a1_4] 38 (0, 0)) (pk_ BK396.out)) : gb397 ≠ gb396)); clear BK395; clear BK396; clear HB; have BK395 := n0_; have BK396 := n1_; have HB := n2_; have BK397 := n3_; have GW397 := n4_; have GE397 := n5_; have NB395_397 := n6_; have NB397_395 := n7_; have NB396_397 := n8_; have NB397_396 := n9_; clear n0_ n1_ n2_ n3_ n4_ n5_ n6_ n7_ n8_ n9_; clear hb hbox hg)); go_upto_region 1 with (first | ((with_reducible refine gate_dst (N := 2) rfl ?_); (try (refine gate_guard (by rfl) ?_; dsimp only)); refine box_event ?hg (N := 2) ?hd (cs := #[.int .i64 a0_0, .int .i64 a0_1, .slice A0_2 l0_2.length c0_2]) (t := 24) ?hr ?_; (case hd => rfl); (case hg => rfl); (case hr => first | (go_simp; done) | (go_simp; rfl)); intro gb395 hg w4 hbox hb; have n0_ := am_ (sp_ (pb0_ HB.out) hb); have n1_ := am_ (hbox); have n2_ := am_ ((by rw [hg]; exact (bz_ (pb0_ HB.out)) : w.heap.size ≤ gb395)); have n3_ := am_ ((by rw [hg]; exact (bz_ (pb0_ HB.out)) : w.heap.size ≤ gb395)); clear HB; have HB := n0_; have BK395 := n1_; have GW395 := n2_; have GE395 := n3_; clear n0_ n1_ n2_ n3_; clear hb hbox hg) | ((with_reducible refine gate_dst (N := 3) rfl ?_); (try (refine gate_guard (by rfl) ?_; dsimp only)); refine box_event ?hg (N := 3) ?hd (cs := #[.int .i64 a1_0, .int .i64 a1_1, .int .i64 a1_2, .slice A1_3 l1_3.length c1_3, .int .i64 a1_4]) (t := 38) ?hr ?_; (case hd => rfl); (case hg => rfl); (case hr => first | (go_simp; done) | (go_simp; rfl)); intro gb396 hg w5 hbox hb; have n0_ := am_ (bw_ (g := gb395) (o := .cells #[.int .i64 a0_0, .int .i64 a0_1, .slice A0_2 l0_2.length c0_2] 24 (0, 0)) (pk_ BK395.out) hb); have n1_ := am_ (sp_ (pb1_ HB.out GE395.out) hb); have n2_ := am_ (hbox); have n3_ := am_ ((by rw [hg]; exact (bz_ (pb1_ HB.out GE395.out)) : w.heap.size ≤ gb396)); have n4_ := am_ ((by rw [hg]; exact (bz_ (pb1_ HB.out GE395.out)) : w.heap.size ≤ gb396)); have n5_ := am_ ((by rw [hg]; exact Nat.ne_of_lt (blk_lt (g := gb395) (o := .cells #[.int .i64 a0_0, .int .i64 a0_1, .slice A0_2 l0_2.length c0_2] 24 (0, 0)) (pk_ BK395.out)) : gb395 ≠ gb396)); have n6_ := am_ ((by rw [hg]; exact Nat.ne_of_gt (blk_lt (g := gb395) (o := .cells #[.int .i64 a0_0, .int .i64 a0_1, .slice A0_2 l0_2.length c0_2] 24 (0, 0)) (pk_ BK395.out)) : gb396 ≠ gb395)); clear BK395; clear HB; have BK395 := n0_; have HB := n1_; have BK396 := n2_; have GW396 := n3_; have GE396 := n4_; have NB395_396 := n5_; have NB396_395 := n6_; clear n0_ n1_ n2_ n3_ n4_ n5_ n6_; clear hb hbox hg) | ((with_reducible refine gate_dst (N := 4) rfl ?_); (try (refine gate_guard (by rfl) ?_; dsimp only)); refine box_event ?hg (N := 4) ?hd (cs := #[.int .i64 0, .int .i64 0, .slice none 0 0]) (t := 24) ?hr ?_; (case hd => rfl); (case hg => rfl); (case hr => first | (go_simp; done) | (go_simp; rfl)); intro gb397 hg w6 hbox hb; have n0_ := am_ (bw_ (g := gb395) (o := .cells #[.int .i64 a0_0, .int .i64 a0_1, .slice A0_2 l0_2.length c0_2] 24 (0, 0)) (pk_ BK395.out) hb); have n1_ := am_ (bw_ (g := gb396) (o := .cells #[.int .i64 a1_0, .int .i64 a1_1, .int .i64 a1_2, .slice A1_3 l1_3.length c1_3, .int .i64 a1_4] 38 (0, 0)) (pk_ BK396.out) hb); have n2_ := am_ (sp_ (pb2_ HB.out GE395.out GE396.out) hb); have n3_ := am_ (hbox); have n4_ := am_ ((by rw [hg]; exact (bz_ (pb2_ HB.out GE395.out GE396.out)) : w.heap.size ≤ gb397)); have n5_ := am_ ((by rw [hg]; exact (bz_ (pb2_ HB.out GE395.out GE396.out)) : w.heap.size ≤ gb397)); have n6_ := am_ ((by rw [hg]; exact Nat.ne_of_lt (blk_lt (g := gb395) (o := .cells #[.int .i64 a0_0, .int .i64 a0_1, .slice A0_2 l0_2.length c0_2] 24 (0, 0)) (pk_ BK395.out)) : gb395 ≠ gb397)); have n7_ := am_ ((by rw [hg]; exact Nat.ne_of_gt (blk_lt (g := gb395) (o := .cells #[.int .i64 a0_0, .int .i64 a0_1, .slice A0_2 l0_2.length c0_2] 24 (0, 0)) (pk_ BK395.out)) : gb397 ≠ gb395)); have n8_ := am_ ((by rw [hg]; exact Nat.ne_of_lt (blk_lt (g := gb396) (o := .cells #[.int .i64 a1_0, .int .i64 a1_1, .int .i64 a1_2, .slice A1_3 l1_3.length c1_3, .int .i64 a1_4] 38 (0, 0)) (pk_ BK396.out)) : gb396 ≠ gb397)); have n9_ := am_ ((by rw [hg]; exact Nat.ne_of_gt (blk_lt (g := gb396) (o := .cells #[.int .i64 a1_0, .int .i64 a1_1, .int .i64 a1_2, .slice A1_3 l1_3.length c1_3, .int .i64 a1_4] 38 (0, 0)) (pk_ BK396.out)) : gb397 ≠ gb396)); clear BK395; clear BK396; clear HB; have BK395 := n0_; have BK396 := n1_; have HB := n2_; have BK397 := n3_; have GW397 := n4_; have GE397 := n5_; have NB395_397 := n6_; have NB397_395 := n7_; have NB396_397 := n8_; have NB397_396 := n9_; clear n0_ n1_ n2_ n3_ n4_ n5_ n6_ n7_ n8_ n9_; clear hb hbox hg)))
 (try simp only [Act.put, lt1_, lt2_, lt3_])
 go_cut [17] (fun v17 wc => ∃ (kq : Nat) (x17_2 : Bool), v17 = .bool x17_2 ∧ Aside0 (tapearchiveref26_Accept.j0 kq x17_2 a0_0 a0_1 l0_2 a1_0 a1_1 a1_2 l1_3 a1_4 = some (r1, r2, r3, r4, r5)) ∧ Aside0 (kq ≤ k) ∧ Aside0 (wc.heap[gb395]? = some (.cells #[.int .i64 a0_0, .int .i64 a0_1, (.slice A0_2 l0_2.length c0_2)] 24 (0, 0))) ∧ Aside0 (wc.heap[gb396]? = some (.cells #[.int .i64 a1_0, .int .i64 a1_1, .int .i64 a1_2, (.slice A1_3 l1_3.length c1_3), .int .i64 a1_4] 38 (0, 0))) ∧ Aside0 (wc.heap[gb397]? = some (.cells #[.int .i64 0, .int .i64 0, (.slice none 0 0)] 24 (0, 0))) ∧ Aside0 (Below w.heap.size w wc))
 case first =>
  have H := HC3.out; clear HC3; replace H := Option.bind_eq_some_iff.mp H; obtain ⟨t398, A70, H⟩ := H; replace H : (if t398 = true then ((tapearchiveref26_sound.f k a1_0 a1_1 a1_2 l1_3 a1_4).bind fun t399 => (tapearchiveref26_Accept.j0 k (!t399) a0_0 a0_1 l0_2 a1_0 a1_1 a1_2 l1_3 a1_4)) else (tapearchiveref26_Accept.j0 k true a0_0 a0_1 l0_2 a1_0 a1_1 a1_2 l1_3 a1_4)) = some (r1, r2, r3, r4, r5) := H; have A7 := am_ A70; clear A70
  by_cases c8 : t398 = true
  ·
   subst c8; have H1 : ((tapearchiveref26_sound.f k a1_0 a1_1 a1_2 l1_3 a1_4).bind fun t399 => (tapearchiveref26_Accept.j0 k (!t399) a0_0 a0_1 l0_2 a1_0 a1_1 a1_2 l1_3 a1_4)) = some (r1, r2, r3, r4, r5) := by rw [if_pos rfl] at H; exact H
   clear H; have H := H1; clear H1; replace H := Option.bind_eq_some_iff.mp H; obtain ⟨t399, A90, H⟩ := H; replace H : (tapearchiveref26_Accept.j0 k (!t399) a0_0 a0_1 l0_2 a1_0 a1_1 a1_2 l1_3 a1_4) = some (r1, r2, r3, r4, r5) := H; have A9 := am_ A90; clear A90; have H' := am_ H; clear H; have hnb10 := NB395_396.out; have hnc10 := NB396_395.out; have hnb11 := NB395_397.out; have hnc11 := NB397_395.out; have hcz12_0 : w6.cell? ⟨gb395, 0, none⟩ = some (.int .i64 a0_0) := (bc_ BK395.out 0).trans rfl; have hcz12_1 : w6.cell? ⟨gb395, 1, none⟩ = some (.int .i64 a0_1) := (bc_ BK395.out 1).trans rfl; have hcz12_2 : w6.cell? ⟨gb395, 2, none⟩ = some (.slice A0_2 l0_2.length c0_2) := (bc_ BK395.out 2).trans rfl; have hfz12_0 := bf_ BK395.out 0; have hfz12_1 := bf_ BK395.out 1; have hfz12_2 := bf_ BK395.out 2
   go_wp2_with (first | (go_at_call 31; (with_reducible refine (tapearchiveref26_valid.calls k a0_0 a0_1 _ _ l0_2 true _ ?side1 ?side2 A7.out).mono ?_); (case side1 => repeat (first | exact (Kd.C_below HR0_2.out HB.out) | (with_reducible refine Kd.C_alloc ?_ _) | (with_reducible refine Kd.C_drewN ?_ _) | (with_reducible refine Kd.C_drew ?_))); (case side2 => exact HC0_2.out); rintro e w13 ⟨rfl, hb⟩; have n0_ := am_ (bw_ (g := gb395) (o := .cells #[.int .i64 a0_0, .int .i64 a0_1, .slice A0_2 l0_2.length c0_2] 24 (0, 0)) (pk_ BK395.out) hb); have n1_ := am_ (bw_ (g := gb396) (o := .cells #[.int .i64 a1_0, .int .i64 a1_1, .int .i64 a1_2, .slice A1_3 l1_3.length c1_3, .int .i64 a1_4] 38 (0, 0)) (pk_ BK396.out) hb); have n2_ := am_ (bw_ (g := gb397) (o := .cells #[.int .i64 0, .int .i64 0, .slice none 0 0] 24 (0, 0)) (pk_ BK397.out) hb); have n3_ := am_ (sp_ (pb3_ HB.out GE395.out GE396.out GE397.out) hb); clear BK395; clear BK396; clear BK397; clear HB; have BK395 := n0_; have BK396 := n1_; have BK397 := n2_; have HB := n3_; clear n0_ n1_ n2_ n3_; (try clear hb); (try clear hb2); (try clear hk); (try clear hi); have hnb14 := NB396_397.out; have hnc14 := NB397_396.out; have hcz15_0 : w13.cell? ⟨gb396, 0, none⟩ = some (.int .i64 a1_0) := (bc_ BK396.out 0).trans rfl; have hcz15_1 : w13.cell? ⟨gb396, 1, none⟩ = some (.int .i64 a1_1) := (bc_ BK396.out 1).trans rfl; have hcz15_2 : w13.cell? ⟨gb396, 2, none⟩ = some (.int .i64 a1_2) := (bc_ BK396.out 2).trans rfl; have hcz15_3 : w13.cell? ⟨gb396, 3, none⟩ = some (.slice A1_3 l1_3.length c1_3) := (bc_ BK396.out 3).trans rfl; have hcz15_4 : w13.cell? ⟨gb396, 4, none⟩ = some (.int .i64 a1_4) := (bc_ BK396.out 4).trans rfl; have hfz15_0 := bf_ BK396.out 0; have hfz15_1 := bf_ BK396.out 1; have hfz15_2 := bf_ BK396.out 2; have hfz15_3 := bf_ BK396.out 3; have hfz15_4 := bf_ BK396.out 4) | (go_at_call 38; (with_reducible refine (tapearchiveref26_sound.calls k a1_0 a1_1 a1_2 _ _ l1_3 a1_4 t399 _ ?side1 ?side2 A9.out).mono ?_); (case side1 => repeat (first | exact (Kd.C_below HR1_3.out HB.out) | (with_reducible refine Kd.C_alloc ?_ _) | (with_reducible refine Kd.C_drewN ?_ _) | (with_reducible refine Kd.C_drew ?_))); (case side2 => exact HC1_3.out); rintro e w16 ⟨rfl, hb⟩; have n0_ := am_ (bw_ (g := gb395) (o := .cells #[.int .i64 a0_0, .int .i64 a0_1, .slice A0_2 l0_2.length c0_2] 24 (0, 0)) (pk_ BK395.out) hb); have n1_ := am_ (bw_ (g := gb396) (o := .cells #[.int .i64 a1_0, .int .i64 a1_1, .int .i64 a1_2, .slice A1_3 l1_3.length c1_3, .int .i64 a1_4] 38 (0, 0)) (pk_ BK396.out) hb); have n2_ := am_ (bw_ (g := gb397) (o := .cells #[.int .i64 0, .int .i64 0, .slice none 0 0] 24 (0, 0)) (pk_ BK397.out) hb); have n3_ := am_ (sp_ (pb3_ HB.out GE395.out GE396.out GE397.out) hb); clear BK395; clear BK396; clear BK397; clear HB; have BK395 := n0_; have BK396 := n1_; have BK397 := n2_; have HB := n3_; clear n0_ n1_ n2_ n3_; (try clear hb); (try clear hb2); (try clear hk); (try clear hi)))
   repeat (go_quiet (first | (go_at_call 31; (with_reducible refine (tapearchiveref26_valid.calls k a0_0 a0_1 _ _ l0_2 true _ ?side1 ?side2 A7.out).mono ?_); (case side1 => repeat (first | exact (Kd.C_below HR0_2.out HB.out) | (with_reducible refine Kd.C_alloc ?_ _) | (with_reducible refine Kd.C_drewN ?_ _) | (with_reducible refine Kd.C_drew ?_))); (case side2 => exact HC0_2.out); rintro e w13 ⟨rfl, hb⟩; have n0_ := am_ (bw_ (g := gb395) (o := .cells #[.int .i64 a0_0, .int .i64 a0_1, .slice A0_2 l0_2.length c0_2] 24 (0, 0)) (pk_ BK395.out) hb); have n1_ := am_ (bw_ (g := gb396) (o := .cells #[.int .i64 a1_0, .int .i64 a1_1, .int .i64 a1_2, .slice A1_3 l1_3.length c1_3, .int .i64 a1_4] 38 (0, 0)) (pk_ BK396.out) hb); have n2_ := am_ (bw_ (g := gb397) (o := .cells #[.int .i64 0, .int .i64 0, .slice none 0 0] 24 (0, 0)) (pk_ BK397.out) hb); have n3_ := am_ (sp_ (pb3_ HB.out GE395.out GE396.out GE397.out) hb); clear BK395; clear BK396; clear BK397; clear HB; have BK395 := n0_; have BK396 := n1_; have BK397 := n2_; have HB := n3_; clear n0_ n1_ n2_ n3_; (try clear hb); (try clear hb2); (try clear hk); (try clear hi); have hnb14 := NB396_397.out; have hnc14 := NB397_396.out; have hcz15_0 : w13.cell? ⟨gb396, 0, none⟩ = some (.int .i64 a1_0) := (bc_ BK396.out 0).trans rfl; have hcz15_1 : w13.cell? ⟨gb396, 1, none⟩ = some (.int .i64 a1_1) := (bc_ BK396.out 1).trans rfl; have hcz15_2 : w13.cell? ⟨gb396, 2, none⟩ = some (.int .i64 a1_2) := (bc_ BK396.out 2).trans rfl; have hcz15_3 : w13.cell? ⟨gb396, 3, none⟩ = some (.slice A1_3 l1_3.length c1_3) := (bc_ BK396.out 3).trans rfl; have hcz15_4 : w13.cell? ⟨gb396, 4, none⟩ = some (.int .i64 a1_4) := (bc_ BK396.out 4).trans rfl; have hfz15_0 := bf_ BK396.out 0; have hfz15_1 := bf_ BK396.out 1; have hfz15_2 := bf_ BK396.out 2; have hfz15_3 := bf_ BK396.out 3; have hfz15_4 := bf_ BK396.out 4) | (go_at_call 38; (with_reducible refine (tapearchiveref26_sound.calls k a1_0 a1_1 a1_2 _ _ l1_3 a1_4 t399 _ ?side1 ?side2 A9.out).mono ?_); (case side1 => repeat (first | exact (Kd.C_below HR1_3.out HB.out) | (with_reducible refine Kd.C_alloc ?_ _) | (with_reducible refine Kd.C_drewN ?_ _) | (with_reducible refine Kd.C_drew ?_))); (case side2 => exact HC1_3.out); rintro e w16 ⟨rfl, hb⟩; have n0_ := am_ (bw_ (g := gb395) (o := .cells #[.int .i64 a0_0, .int .i64 a0_1, .slice A0_2 l0_2.length c0_2] 24 (0, 0)) (pk_ BK395.out) hb); have n1_ := am_ (bw_ (g := gb396) (o := .cells #[.int .i64 a1_0, .int .i64 a1_1, .int .i64 a1_2, .slice A1_3 l1_3.length c1_3, .int .i64 a1_4] 38 (0, 0)) (pk_ BK396.out) hb); have n2_ := am_ (bw_ (g := gb397) (o := .cells #[.int .i64 0, .int .i64 0, .slice none 0 0] 24 (0, 0)) (pk_ BK397.out) hb); have n3_ := am_ (sp_ (pb3_ HB.out GE395.out GE396.out GE397.out) hb); clear BK395; clear BK396; clear BK397; clear HB; have BK395 := n0_; have BK396 := n1_; have BK397 := n2_; have HB := n3_; clear n0_ n1_ n2_ n3_; (try clear hb); (try clear hb2); (try clear hk); (try clear hi))); try go_wp2_with (first | (go_at_call 31; (with_reducible refine (tapearchiveref26_valid.calls k a0_0 a0_1 _ _ l0_2 true _ ?side1 ?side2 A7.out).mono ?_); (case side1 => repeat (first | exact (Kd.C_below HR0_2.out HB.out) | (with_reducible refine Kd.C_alloc ?_ _) | (with_reducible refine Kd.C_drewN ?_ _) | (with_reducible refine Kd.C_drew ?_))); (case side2 => exact HC0_2.out); rintro e w13 ⟨rfl, hb⟩; have n0_ := am_ (bw_ (g := gb395) (o := .cells #[.int .i64 a0_0, .int .i64 a0_1, .slice A0_2 l0_2.length c0_2] 24 (0, 0)) (pk_ BK395.out) hb); have n1_ := am_ (bw_ (g := gb396) (o := .cells #[.int .i64 a1_0, .int .i64 a1_1, .int .i64 a1_2, .slice A1_3 l1_3.length c1_3, .int .i64 a1_4] 38 (0, 0)) (pk_ BK396.out) hb); have n2_ := am_ (bw_ (g := gb397) (o := .cells #[.int .i64 0, .int .i64 0, .slice none 0 0] 24 (0, 0)) (pk_ BK397.out) hb); have n3_ := am_ (sp_ (pb3_ HB.out GE395.out GE396.out GE397.out) hb); clear BK395; clear BK396; clear BK397; clear HB; have BK395 := n0_; have BK396 := n1_; have BK397 := n2_; have HB := n3_; clear n0_ n1_ n2_ n3_; (try clear hb); (try clear hb2); (try clear hk); (try clear hi); have hnb14 := NB396_397.out; have hnc14 := NB397_396.out; have hcz15_0 : w13.cell? ⟨gb396, 0, none⟩ = some (.int .i64 a1_0) := (bc_ BK396.out 0).trans rfl; have hcz15_1 : w13.cell? ⟨gb396, 1, none⟩ = some (.int .i64 a1_1) := (bc_ BK396.out 1).trans rfl; have hcz15_2 : w13.cell? ⟨gb396, 2, none⟩ = some (.int .i64 a1_2) := (bc_ BK396.out 2).trans rfl; have hcz15_3 : w13.cell? ⟨gb396, 3, none⟩ = some (.slice A1_3 l1_3.length c1_3) := (bc_ BK396.out 3).trans rfl; have hcz15_4 : w13.cell? ⟨gb396, 4, none⟩ = some (.int .i64 a1_4) := (bc_ BK396.out 4).trans rfl; have hfz15_0 := bf_ BK396.out 0; have hfz15_1 := bf_ BK396.out 1; have hfz15_2 := bf_ BK396.out 2; have hfz15_3 := bf_ BK396.out 3; have hfz15_4 := bf_ BK396.out 4) | (go_at_call 38; (with_reducible refine (tapearchiveref26_sound.calls k a1_0 a1_1 a1_2 _ _ l1_3 a1_4 t399 _ ?side1 ?side2 A9.out).mono ?_); (case side1 => repeat (first | exact (Kd.C_below HR1_3.out HB.out) | (with_reducible refine Kd.C_alloc ?_ _) | (with_reducible refine Kd.C_drewN ?_ _) | (with_reducible refine Kd.C_drew ?_))); (case side2 => exact HC1_3.out); rintro e w16 ⟨rfl, hb⟩; have n0_ := am_ (bw_ (g := gb395) (o := .cells #[.int .i64 a0_0, .int .i64 a0_1, .slice A0_2 l0_2.length c0_2] 24 (0, 0)) (pk_ BK395.out) hb); have n1_ := am_ (bw_ (g := gb396) (o := .cells #[.int .i64 a1_0, .int .i64 a1_1, .int .i64 a1_2, .slice A1_3 l1_3.length c1_3, .int .i64 a1_4] 38 (0, 0)) (pk_ BK396.out) hb); have n2_ := am_ (bw_ (g := gb397) (o := .cells #[.int .i64 0, .int .i64 0, .slice none 0 0] 24 (0, 0)) (pk_ BK397.out) hb); have n3_ := am_ (sp_ (pb3_ HB.out GE395.out GE396.out GE397.out) hb); clear BK395; clear BK396; clear BK397; clear HB; have BK395 := n0_; have BK396 := n1_; have BK397 := n2_; have HB := n3_; clear n0_ n1_ n2_ n3_; (try clear hb); (try clear hb2); (try clear hk); (try clear hi))))
   go_meet
   case rel => exact ⟨_, (!t399), (by first | rfl | (simp; done) | (simp [*]; done)), H', ⟨by first | omega | exact Nat.le_refl _⟩, ⟨by (with_reducible repeat (first | refine bn_ ?_ _ | refine bd_ ?_ | refine ba_ ?_ _)); exact BK395.out⟩, ⟨by (with_reducible repeat (first | refine bn_ ?_ _ | refine bd_ ?_ | refine ba_ ?_ _)); exact BK396.out⟩, ⟨by (with_reducible repeat (first | refine bn_ ?_ _ | refine bd_ ?_ | refine ba_ ?_ _)); exact BK397.out⟩, ⟨pb3_ HB.out GE395.out GE396.out GE397.out⟩⟩
  ·
   replace c8 := Bool.eq_false_iff.mpr c8; subst c8; have H1 : (tapearchiveref26_Accept.j0 k true a0_0 a0_1 l0_2 a1_0 a1_1 a1_2 l1_3 a1_4) = some (r1, r2, r3, r4, r5) := by rw [if_neg (show ¬ (false = true) by decide)] at H; exact H
   clear H; have H := H1; clear H1; have H' := am_ H; clear H; have hnb17 := NB395_396.out; have hnc17 := NB396_395.out; have hnb18 := NB395_397.out; have hnc18 := NB397_395.out; have hcz19_0 : w6.cell? ⟨gb395, 0, none⟩ = some (.int .i64 a0_0) := (bc_ BK395.out 0).trans rfl; have hcz19_1 : w6.cell? ⟨gb395, 1, none⟩ = some (.int .i64 a0_1) := (bc_ BK395.out 1).trans rfl; have hcz19_2 : w6.cell? ⟨gb395, 2, none⟩ = some (.slice A0_2 l0_2.length c0_2) := (bc_ BK395.out 2).trans rfl; have hfz19_0 := bf_ BK395.out 0; have hfz19_1 := bf_ BK395.out 1; have hfz19_2 := bf_ BK395.out 2
   go_wp2_with (first | (go_at_call 31; (with_reducible refine (tapearchiveref26_valid.calls k a0_0 a0_1 _ _ l0_2 false _ ?side1 ?side2 A7.out).mono ?_); (case side1 => repeat (first | exact (Kd.C_below HR0_2.out HB.out) | (with_reducible refine Kd.C_alloc ?_ _) | (with_reducible refine Kd.C_drewN ?_ _) | (with_reducible refine Kd.C_drew ?_))); (case side2 => exact HC0_2.out); rintro e w20 ⟨rfl, hb⟩; have n0_ := am_ (bw_ (g := gb395) (o := .cells #[.int .i64 a0_0, .int .i64 a0_1, .slice A0_2 l0_2.length c0_2] 24 (0, 0)) (pk_ BK395.out) hb); have n1_ := am_ (bw_ (g := gb396) (o := .cells #[.int .i64 a1_0, .int .i64 a1_1, .int .i64 a1_2, .slice A1_3 l1_3.length c1_3, .int .i64 a1_4] 38 (0, 0)) (pk_ BK396.out) hb); have n2_ := am_ (bw_ (g := gb397) (o := .cells #[.int .i64 0, .int .i64 0, .slice none 0 0] 24 (0, 0)) (pk_ BK397.out) hb); have n3_ := am_ (sp_ (pb3_ HB.out GE395.out GE396.out GE397.out) hb); clear BK395; clear BK396; clear BK397; clear HB; have BK395 := n0_; have BK396 := n1_; have BK397 := n2_; have HB := n3_; clear n0_ n1_ n2_ n3_; (try clear hb); (try clear hb2); (try clear hk); (try clear hi)))
   repeat (go_quiet (first | (go_at_call 31; (with_reducible refine (tapearchiveref26_valid.calls k a0_0 a0_1 _ _ l0_2 false _ ?side1 ?side2 A7.out).mono ?_); (case side1 => repeat (first | exact (Kd.C_below HR0_2.out HB.out) | (with_reducible refine Kd.C_alloc ?_ _) | (with_reducible refine Kd.C_drewN ?_ _) | (with_reducible refine Kd.C_drew ?_))); (case side2 => exact HC0_2.out); rintro e w20 ⟨rfl, hb⟩; have n0_ := am_ (bw_ (g := gb395) (o := .cells #[.int .i64 a0_0, .int .i64 a0_1, .slice A0_2 l0_2.length c0_2] 24 (0, 0)) (pk_ BK395.out) hb); have n1_ := am_ (bw_ (g := gb396) (o := .cells #[.int .i64 a1_0, .int .i64 a1_1, .int .i64 a1_2, .slice A1_3 l1_3.length c1_3, .int .i64 a1_4] 38 (0, 0)) (pk_ BK396.out) hb); have n2_ := am_ (bw_ (g := gb397) (o := .cells #[.int .i64 0, .int .i64 0, .slice none 0 0] 24 (0, 0)) (pk_ BK397.out) hb); have n3_ := am_ (sp_ (pb3_ HB.out GE395.out GE396.out GE397.out) hb); clear BK395; clear BK396; clear BK397; clear HB; have BK395 := n0_; have BK396 := n1_; have BK397 := n2_; have HB := n3_; clear n0_ n1_ n2_ n3_; (try clear hb); (try clear hb2); (try clear hk); (try clear hi))); try go_wp2_with (first | (go_at_call 31; (with_reducible refine (tapearchiveref26_valid.calls k a0_0 a0_1 _ _ l0_2 false _ ?side1 ?side2 A7.out).mono ?_); (case side1 => repeat (first | exact (Kd.C_below HR0_2.out HB.out) | (with_reducible refine Kd.C_alloc ?_ _) | (with_reducible refine Kd.C_drewN ?_ _) | (with_reducible refine Kd.C_drew ?_))); (case side2 => exact HC0_2.out); rintro e w20 ⟨rfl, hb⟩; have n0_ := am_ (bw_ (g := gb395) (o := .cells #[.int .i64 a0_0, .int .i64 a0_1, .slice A0_2 l0_2.length c0_2] 24 (0, 0)) (pk_ BK395.out) hb); have n1_ := am_ (bw_ (g := gb396) (o := .cells #[.int .i64 a1_0, .int .i64 a1_1, .int .i64 a1_2, .slice A1_3 l1_3.length c1_3, .int .i64 a1_4] 38 (0, 0)) (pk_ BK396.out) hb); have n2_ := am_ (bw_ (g := gb397) (o := .cells #[.int .i64 0, .int .i64 0, .slice none 0 0] 24 (0, 0)) (pk_ BK397.out) hb); have n3_ := am_ (sp_ (pb3_ HB.out GE395.out GE396.out GE397.out) hb); clear BK395; clear BK396; clear BK397; clear HB; have BK395 := n0_; have BK396 := n1_; have BK397 := n2_; have HB := n3_; clear n0_ n1_ n2_ n3_; (try clear hb); (try clear hb2); (try clear hk); (try clear hi))))
   go_meet
   case rel => exact ⟨_, (true), (by first | rfl | (simp; done) | (simp [*]; done)), H', ⟨by first | omega | exact Nat.le_refl _⟩, ⟨by (with_reducible repeat (first | refine bn_ ?_ _ | refine bd_ ?_ | refine ba_ ?_ _)); exact BK395.out⟩, ⟨by (with_reducible repeat (first | refine bn_ ?_ _ | refine bd_ ?_ | refine ba_ ?_ _)); exact BK396.out⟩, ⟨by (with_reducible repeat (first | refine bn_ ?_ _ | refine bd_ ?_ | refine ba_ ?_ _)); exact BK397.out⟩, ⟨pb3_ HB.out GE395.out GE396.out GE397.out⟩⟩
 case rest =>
  clear HC3
  try clear c1
  try clear p2
  try clear c8
  try clear c10
  try clear c11
  try clear c14
  try clear c17
  try clear c18
  try clear c19
  try clear hcz12_0
  try clear hcz12_1
  try clear hcz12_2
  try clear hcz15_0
  try clear hcz15_1
  try clear hcz15_2
  try clear hcz15_3
  try clear hcz15_4
  try clear hcz19_0
  try clear hcz19_1
  try clear hcz19_2
  try clear hfz12_0
  try clear hfz12_1
  try clear hfz12_2
  try clear hfz15_0
  try clear hfz15_1
  try clear hfz15_2
  try clear hfz15_3
  try clear hfz15_4
  try clear hfz19_0
  try clear hfz19_1
  try clear hfz19_2
  obtain ⟨kq, x17_2, rfl, HA, HJ2, BK395, BK396, BK397, HB⟩ := hcut; cases kq with
  | zero => exact absurd HA.out (by simp [tapearchiveref26_Accept.j0])
  | succ kj2 =>
   have H := HA.out; clear HA; simp only [tapearchiveref26_Accept.j0] at H
   by_cases c21 : x17_2 = true
   ·
    subst c21; have H1 : (some (0, 0, ([] : List (S79)), 0, 8)) = some (r1, r2, r3, r4, r5) := by rw [if_pos rfl] at H; exact H
    clear H; have H := H1; clear H1; simp only [Option.some.injEq, Prod.mk.injEq] at H; obtain ⟨rfl, rfl, rfl, rfl, rfl⟩ := H; have hnb22 := NB397_395.out; have hnc22 := NB395_397.out; have hnb23 := NB397_396.out; have hnc23 := NB396_397.out; have hcz24_0 : wc.cell? ⟨gb397, 0, none⟩ = some (.int .i64 0) := (bc_ BK397.out 0).trans rfl; have hcz24_1 : wc.cell? ⟨gb397, 1, none⟩ = some (.int .i64 0) := (bc_ BK397.out 1).trans rfl; have hcz24_2 : wc.cell? ⟨gb397, 2, none⟩ = some (.slice none 0 0) := (bc_ BK397.out 2).trans rfl; have hfz24_0 := bf_ BK397.out 0; have hfz24_1 := bf_ BK397.out 1; have hfz24_2 := bf_ BK397.out 2; go_wp2
    repeat (go_quiet (fail); try go_wp2)
    refine bodyPost_ret (results_ctt rfl _ _ gb397 24 #[.int .i64 0, .int .i64 0, .slice none 0 0] (0, 0) _ rfl (by (with_reducible repeat (first | refine bn_ ?_ _ | refine bd_ ?_ | refine ba_ ?_ _)); refine blk_put (cs := #[.int .i64 0, .int .i64 0, .slice none 0 0]) ?_ 2 _ rfl; (with_reducible repeat (first | refine bn_ ?_ _ | refine bd_ ?_ | refine ba_ ?_ _)); refine blk_put (cs := #[.int .i64 0, .int .i64 0, .slice none 0 0]) ?_ 1 _ rfl; (with_reducible repeat (first | refine bn_ ?_ _ | refine bd_ ?_ | refine ba_ ?_ _)); refine blk_put (cs := #[.int .i64 0, .int .i64 0, .slice none 0 0]) ?_ 0 _ rfl; (with_reducible repeat (first | refine bn_ ?_ _ | refine bd_ ?_ | refine ba_ ?_ _)); exact BK397.out) Try.underlying24 rfl (by kernel_rfl)) rfl ?_; exact ⟨_, by first | rfl | (simp [errW_none, errW_some] <;> rfl) | (simp [*, errW_none, errW_some] <;> rfl), by first | exact Kd.S_nil _ _ _ _ _ | exact Kd.N_nil _ _ _ _ _ | exact Kd.V_nil _ _ _ _ _ | exact Kd.Q_nil _ _ _ _ _ | exact Kd.R_nil _ _ _ _ _, pb3_ HB.out GE395.out GE396.out GE397.out⟩
   ·
    replace c21 := Bool.eq_false_iff.mpr c21; subst c21; have H1 : (if a1_0 < a0_0 then (some (0, 0, ([] : List (S79)), 0, 22)) else (if a1_1 > (l0_2.length : Int) then (tapearchiveref26_Accept.j1 kj2 true a0_0 a0_1 l0_2 a1_0 a1_1 a1_2 l1_3 a1_4) else ((tapearchiveref26_end.f l0_2 a1_1).bind fun t400 => (tapearchiveref26_Accept.j1 kj2 (t400 != a1_2) a0_0 a0_1 l0_2 a1_0 a1_1 a1_2 l1_3 a1_4)))) = some (r1, r2, r3, r4, r5) := by rw [if_neg (show ¬ (false = true) by decide)] at H; exact H
    clear H; have H := H1; clear H1
    by_cases c25 : a1_0 < a0_0
    ·
     rw [if_pos c25] at H; have c25b0 : decide (a1_0 < a0_0) = true := de_ c25; clear c25; simp only [Option.some.injEq, Prod.mk.injEq] at H; obtain ⟨rfl, rfl, rfl, rfl, rfl⟩ := H; have hnb26 := NB396_395.out; have hnc26 := NB395_396.out; have hnb27 := NB396_397.out; have hnc27 := NB397_396.out; have hcz28_0 : wc.cell? ⟨gb396, 0, none⟩ = some (.int .i64 a1_0) := (bc_ BK396.out 0).trans rfl; have hcz28_1 : wc.cell? ⟨gb396, 1, none⟩ = some (.int .i64 a1_1) := (bc_ BK396.out 1).trans rfl; have hcz28_2 : wc.cell? ⟨gb396, 2, none⟩ = some (.int .i64 a1_2) := (bc_ BK396.out 2).trans rfl; have hcz28_3 : wc.cell? ⟨gb396, 3, none⟩ = some (.slice A1_3 l1_3.length c1_3) := (bc_ BK396.out 3).trans rfl; have hcz28_4 : wc.cell? ⟨gb396, 4, none⟩ = some (.int .i64 a1_4) := (bc_ BK396.out 4).trans rfl; have hfz28_0 := bf_ BK396.out 0; have hfz28_1 := bf_ BK396.out 1; have hfz28_2 := bf_ BK396.out 2; have hfz28_3 := bf_ BK396.out 3; have hfz28_4 := bf_ BK396.out 4; have hnb29 := NB395_397.out; have hnc29 := NB397_395.out; have hcz30_0 : wc.cell? ⟨gb395, 0, none⟩ = some (.int .i64 a0_0) := (bc_ BK395.out 0).trans rfl; have hcz30_1 : wc.cell? ⟨gb395, 1, none⟩ = some (.int .i64 a0_1) := (bc_ BK395.out 1).trans rfl; have hcz30_2 : wc.cell? ⟨gb395, 2, none⟩ = some (.slice A0_2 l0_2.length c0_2) := (bc_ BK395.out 2).trans rfl; have hfz30_0 := bf_ BK395.out 0; have hfz30_1 := bf_ BK395.out 1; have hfz30_2 := bf_ BK395.out 2; have hcz31_0 : wc.cell? ⟨gb397, 0, none⟩ = some (.int .i64 0) := (bc_ BK397.out 0).trans rfl; have hcz31_1 : wc.cell? ⟨gb397, 1, none⟩ = some (.int .i64 0) := (bc_ BK397.out 1).trans rfl; have hcz31_2 : wc.cell? ⟨gb397, 2, none⟩ = some (.slice none 0 0) := (bc_ BK397.out 2).trans rfl; have hfz31_0 := bf_ BK397.out 0; have hfz31_1 := bf_ BK397.out 1; have hfz31_2 := bf_ BK397.out 2; go_wp2
     repeat (go_quiet (fail); try go_wp2)
     refine bodyPost_ret (results_ctt rfl _ _ gb397 24 #[.int .i64 0, .int .i64 0, .slice none 0 0] (0, 0) _ rfl (by (with_reducible repeat (first | refine bn_ ?_ _ | refine bd_ ?_ | refine ba_ ?_ _)); refine blk_put (cs := #[.int .i64 0, .int .i64 0, .slice none 0 0]) ?_ 2 _ rfl; (with_reducible repeat (first | refine bn_ ?_ _ | refine bd_ ?_ | refine ba_ ?_ _)); refine blk_put (cs := #[.int .i64 0, .int .i64 0, .slice none 0 0]) ?_ 1 _ rfl; (with_reducible repeat (first | refine bn_ ?_ _ | refine bd_ ?_ | refine ba_ ?_ _)); refine blk_put (cs := #[.int .i64 0, .int .i64 0, .slice none 0 0]) ?_ 0 _ rfl; (with_reducible repeat (first | refine bn_ ?_ _ | refine bd_ ?_ | refine ba_ ?_ _)); exact BK397.out) Try.underlying24 rfl (by kernel_rfl)) rfl ?_; exact ⟨_, by first | rfl | (simp [errW_none, errW_some] <;> rfl) | (simp [*, errW_none, errW_some] <;> rfl), by first | exact Kd.S_nil _ _ _ _ _ | exact Kd.N_nil _ _ _ _ _ | exact Kd.V_nil _ _ _ _ _ | exact Kd.Q_nil _ _ _ _ _ | exact Kd.R_nil _ _ _ _ _, pb3_ HB.out GE395.out GE396.out GE397.out⟩
    ·
     rw [if_neg c25] at H; have c25b0 : decide (a1_0 < a0_0) = false := df_ c25; clear c25; have HC32 := am_ H; clear H; have hnb33 := NB396_395.out; have hnc33 := NB395_396.out; have hnb34 := NB396_397.out; have hnc34 := NB397_396.out; have hcz35_0 : wc.cell? ⟨gb396, 0, none⟩ = some (.int .i64 a1_0) := (bc_ BK396.out 0).trans rfl; have hcz35_1 : wc.cell? ⟨gb396, 1, none⟩ = some (.int .i64 a1_1) := (bc_ BK396.out 1).trans rfl; have hcz35_2 : wc.cell? ⟨gb396, 2, none⟩ = some (.int .i64 a1_2) := (bc_ BK396.out 2).trans rfl; have hcz35_3 : wc.cell? ⟨gb396, 3, none⟩ = some (.slice A1_3 l1_3.length c1_3) := (bc_ BK396.out 3).trans rfl; have hcz35_4 : wc.cell? ⟨gb396, 4, none⟩ = some (.int .i64 a1_4) := (bc_ BK396.out 4).trans rfl; have hfz35_0 := bf_ BK396.out 0; have hfz35_1 := bf_ BK396.out 1; have hfz35_2 := bf_ BK396.out 2; have hfz35_3 := bf_ BK396.out 3; have hfz35_4 := bf_ BK396.out 4; have hnb36 := NB395_397.out; have hnc36 := NB397_395.out; have hcz37_0 : wc.cell? ⟨gb395, 0, none⟩ = some (.int .i64 a0_0) := (bc_ BK395.out 0).trans rfl; have hcz37_1 : wc.cell? ⟨gb395, 1, none⟩ = some (.int .i64 a0_1) := (bc_ BK395.out 1).trans rfl; have hcz37_2 : wc.cell? ⟨gb395, 2, none⟩ = some (.slice A0_2 l0_2.length c0_2) := (bc_ BK395.out 2).trans rfl; have hfz37_0 := bf_ BK395.out 0; have hfz37_1 := bf_ BK395.out 1; have hfz37_2 := bf_ BK395.out 2
     go_upto_region 5 with (fail)
     repeat (go_quiet (fail); go_upto_region 5 with (fail))
     go_cut [40] (fun v40 wc => ∃ (kq : Nat) (x40_31 : Bool), v40 = .bool x40_31 ∧ Aside0 (tapearchiveref26_Accept.j1 kq x40_31 a0_0 a0_1 l0_2 a1_0 a1_1 a1_2 l1_3 a1_4 = some (r1, r2, r3, r4, r5)) ∧ Aside0 (kq ≤ kj2) ∧ Aside0 (wc.heap[gb395]? = some (.cells #[.int .i64 a0_0, .int .i64 a0_1, (.slice A0_2 l0_2.length c0_2)] 24 (0, 0))) ∧ Aside0 (wc.heap[gb396]? = some (.cells #[.int .i64 a1_0, .int .i64 a1_1, .int .i64 a1_2, (.slice A1_3 l1_3.length c1_3), .int .i64 a1_4] 38 (0, 0))) ∧ Aside0 (wc.heap[gb397]? = some (.cells #[.int .i64 0, .int .i64 0, (.slice none 0 0)] 24 (0, 0))) ∧ Aside0 (Below w.heap.size w wc))
     case first =>
      have H := HC32.out; clear HC32
      by_cases c38 : a1_1 > (l0_2.length : Int)
      ·
       rw [if_pos c38] at H; have c38b0 : decide ((l0_2.length : Int) < a1_1) = true := de_ c38; clear c38
       (first | rw [c38b0] | (simp only [i64_w, i32_w]; rw [c38b0]) | rw [c38b2] | skip)
       have H' := am_ H; clear H; have hnb39 := NB396_395.out; have hnc39 := NB395_396.out; have hnb40 := NB396_397.out; have hnc40 := NB397_396.out; have hcz41_0 : wc.cell? ⟨gb396, 0, none⟩ = some (.int .i64 a1_0) := (bc_ BK396.out 0).trans rfl; have hcz41_1 : wc.cell? ⟨gb396, 1, none⟩ = some (.int .i64 a1_1) := (bc_ BK396.out 1).trans rfl; have hcz41_2 : wc.cell? ⟨gb396, 2, none⟩ = some (.int .i64 a1_2) := (bc_ BK396.out 2).trans rfl; have hcz41_3 : wc.cell? ⟨gb396, 3, none⟩ = some (.slice A1_3 l1_3.length c1_3) := (bc_ BK396.out 3).trans rfl; have hcz41_4 : wc.cell? ⟨gb396, 4, none⟩ = some (.int .i64 a1_4) := (bc_ BK396.out 4).trans rfl; have hfz41_0 := bf_ BK396.out 0; have hfz41_1 := bf_ BK396.out 1; have hfz41_2 := bf_ BK396.out 2; have hfz41_3 := bf_ BK396.out 3; have hfz41_4 := bf_ BK396.out 4; have hnb42 := NB395_397.out; have hnc42 := NB397_395.out; have hcz43_0 : wc.cell? ⟨gb395, 0, none⟩ = some (.int .i64 a0_0) := (bc_ BK395.out 0).trans rfl; have hcz43_1 : wc.cell? ⟨gb395, 1, none⟩ = some (.int .i64 a0_1) := (bc_ BK395.out 1).trans rfl; have hcz43_2 : wc.cell? ⟨gb395, 2, none⟩ = some (.slice A0_2 l0_2.length c0_2) := (bc_ BK395.out 2).trans rfl; have hfz43_0 := bf_ BK395.out 0; have hfz43_1 := bf_ BK395.out 1; have hfz43_2 := bf_ BK395.out 2; go_wp2
       repeat (go_quiet (fail); try go_wp2)
       go_meet
       case rel => exact ⟨_, (true), (by first | rfl | (simp; done) | (simp [*]; done)), H', ⟨by have := HJ2.out; first | omega | exact Nat.le_refl _⟩, ⟨by (with_reducible repeat (first | refine bn_ ?_ _ | refine bd_ ?_ | refine ba_ ?_ _)); exact BK395.out⟩, ⟨by (with_reducible repeat (first | refine bn_ ?_ _ | refine bd_ ?_ | refine ba_ ?_ _)); exact BK396.out⟩, ⟨by (with_reducible repeat (first | refine bn_ ?_ _ | refine bd_ ?_ | refine ba_ ?_ _)); exact BK397.out⟩, ⟨pb3_ HB.out GE395.out GE396.out GE397.out⟩⟩
      ·
       rw [if_neg c38] at H; have c38b0 : decide ((l0_2.length : Int) < a1_1) = false := df_ c38; clear c38
       (first | rw [c38b0] | (simp only [i64_w, i32_w]; rw [c38b0]) | rw [c38b2] | skip)
       replace H := Option.bind_eq_some_iff.mp H; obtain ⟨t400, A440, H⟩ := H; replace H : (tapearchiveref26_Accept.j1 kj2 (t400 != a1_2) a0_0 a0_1 l0_2 a1_0 a1_1 a1_2 l1_3 a1_4) = some (r1, r2, r3, r4, r5) := H; have A44 := am_ A440; clear A440; have H' := am_ H; clear H; have hnb45 := NB396_395.out; have hnc45 := NB395_396.out; have hnb46 := NB396_397.out; have hnc46 := NB397_396.out; have hcz47_0 : wc.cell? ⟨gb396, 0, none⟩ = some (.int .i64 a1_0) := (bc_ BK396.out 0).trans rfl; have hcz47_1 : wc.cell? ⟨gb396, 1, none⟩ = some (.int .i64 a1_1) := (bc_ BK396.out 1).trans rfl; have hcz47_2 : wc.cell? ⟨gb396, 2, none⟩ = some (.int .i64 a1_2) := (bc_ BK396.out 2).trans rfl; have hcz47_3 : wc.cell? ⟨gb396, 3, none⟩ = some (.slice A1_3 l1_3.length c1_3) := (bc_ BK396.out 3).trans rfl; have hcz47_4 : wc.cell? ⟨gb396, 4, none⟩ = some (.int .i64 a1_4) := (bc_ BK396.out 4).trans rfl; have hfz47_0 := bf_ BK396.out 0; have hfz47_1 := bf_ BK396.out 1; have hfz47_2 := bf_ BK396.out 2; have hfz47_3 := bf_ BK396.out 3; have hfz47_4 := bf_ BK396.out 4; have hnb48 := NB395_397.out; have hnc48 := NB397_395.out; have hcz49_0 : wc.cell? ⟨gb395, 0, none⟩ = some (.int .i64 a0_0) := (bc_ BK395.out 0).trans rfl; have hcz49_1 : wc.cell? ⟨gb395, 1, none⟩ = some (.int .i64 a0_1) := (bc_ BK395.out 1).trans rfl; have hcz49_2 : wc.cell? ⟨gb395, 2, none⟩ = some (.slice A0_2 l0_2.length c0_2) := (bc_ BK395.out 2).trans rfl; have hfz49_0 := bf_ BK395.out 0; have hfz49_1 := bf_ BK395.out 1; have hfz49_2 := bf_ BK395.out 2
       go_wp2_with (first | (go_at_call 32; (with_reducible refine (tapearchiveref26_end.calls _ _ l0_2 a1_1 t400 _ ?side1 ?side2 A44.out).mono ?_); (case side1 => repeat (first | exact (Kd.C_below HR0_2.out HB.out) | (with_reducible refine Kd.C_alloc ?_ _) | (with_reducible refine Kd.C_drewN ?_ _) | (with_reducible refine Kd.C_drew ?_))); (case side2 => exact HC0_2.out); rintro e w' ⟨rfl, ⟨nd, rfl⟩⟩; (try first | exact ⟨rfl, _, World.drewN_drewN _ _ _⟩ | exact ⟨rfl, _, Eq.trans (World.drewN_drewN _ _ _) (congrArg (World.drewN _) (Nat.add_assoc _ _ _))⟩)))
       repeat (go_quiet (first | (go_at_call 32; (with_reducible refine (tapearchiveref26_end.calls _ _ l0_2 a1_1 t400 _ ?side1 ?side2 A44.out).mono ?_); (case side1 => repeat (first | exact (Kd.C_below HR0_2.out HB.out) | (with_reducible refine Kd.C_alloc ?_ _) | (with_reducible refine Kd.C_drewN ?_ _) | (with_reducible refine Kd.C_drew ?_))); (case side2 => exact HC0_2.out); rintro e w' ⟨rfl, ⟨nd, rfl⟩⟩; (try first | exact ⟨rfl, _, World.drewN_drewN _ _ _⟩ | exact ⟨rfl, _, Eq.trans (World.drewN_drewN _ _ _) (congrArg (World.drewN _) (Nat.add_assoc _ _ _))⟩))); try go_wp2_with (first | (go_at_call 32; (with_reducible refine (tapearchiveref26_end.calls _ _ l0_2 a1_1 t400 _ ?side1 ?side2 A44.out).mono ?_); (case side1 => repeat (first | exact (Kd.C_below HR0_2.out HB.out) | (with_reducible refine Kd.C_alloc ?_ _) | (with_reducible refine Kd.C_drewN ?_ _) | (with_reducible refine Kd.C_drew ?_))); (case side2 => exact HC0_2.out); rintro e w' ⟨rfl, ⟨nd, rfl⟩⟩; (try first | exact ⟨rfl, _, World.drewN_drewN _ _ _⟩ | exact ⟨rfl, _, Eq.trans (World.drewN_drewN _ _ _) (congrArg (World.drewN _) (Nat.add_assoc _ _ _))⟩))))
       go_meet
       case rel => exact ⟨_, ((t400 != a1_2)), (by first | rfl | (simp; done) | (simp [*]; done)), H', ⟨by have := HJ2.out; first | omega | exact Nat.le_refl _⟩, ⟨by (with_reducible repeat (first | refine bn_ ?_ _ | refine bd_ ?_ | refine ba_ ?_ _)); exact BK395.out⟩, ⟨by (with_reducible repeat (first | refine bn_ ?_ _ | refine bd_ ?_ | refine ba_ ?_ _)); exact BK396.out⟩, ⟨by (with_reducible repeat (first | refine bn_ ?_ _ | refine bd_ ?_ | refine ba_ ?_ _)); exact BK397.out⟩, ⟨pb3_ HB.out GE395.out GE396.out GE397.out⟩⟩
     case rest =>
      clear HC32
      try clear c1
      try clear c2
      try clear p2
      try clear c3
      try clear c4
      try clear c8
      try clear c10
      try clear c11
      try clear c14
      try clear c17
      try clear c18
      try clear c19
      try clear c21
      try clear c22
      try clear c23
      try clear c25
      try clear c25b0
      try clear c26
      try clear c27
      try clear c29
      try clear c33
      try clear c34
      try clear c36
      try clear c38
      try clear c38b0
      try clear c38b2
      try clear c39
      try clear c40
      try clear c42
      try clear c45
      try clear c46
      try clear c48
      try clear hcz12_0
      try clear hcz12_1
      try clear hcz12_2
      try clear hcz15_0
      try clear hcz15_1
      try clear hcz15_2
      try clear hcz15_3
      try clear hcz15_4
      try clear hcz19_0
      try clear hcz19_1
      try clear hcz19_2
      try clear hcz24_0
      try clear hcz24_1
      try clear hcz24_2
      try clear hcz28_0
      try clear hcz28_1
      try clear hcz28_2
      try clear hcz28_3
      try clear hcz28_4
      try clear hcz30_0
      try clear hcz30_1
      try clear hcz30_2
      try clear hcz31_0
      try clear hcz31_1
      try clear hcz31_2
      try clear hcz35_0
      try clear hcz35_1
      try clear hcz35_2
      try clear hcz35_3
      try clear hcz35_4
      try clear hcz37_0
      try clear hcz37_1
      try clear hcz37_2
      try clear hcz41_0
      try clear hcz41_1
      try clear hcz41_2
      try clear hcz41_3
      try clear hcz41_4
      try clear hcz43_0
      try clear hcz43_1
      try clear hcz43_2
      try clear hcz47_0
      try clear hcz47_1
      try clear hcz47_2
      try clear hcz47_3
      try clear hcz47_4
      try clear hcz49_0
      try clear hcz49_1
      try clear hcz49_2
      try clear hfz12_0
      try clear hfz12_1
      try clear hfz12_2
      try clear hfz15_0
      try clear hfz15_1
      try clear hfz15_2
      try clear hfz15_3
      try clear hfz15_4
      try clear hfz19_0
      try clear hfz19_1
      try clear hfz19_2
      try clear hfz24_0
      try clear hfz24_1
      try clear hfz24_2
      try clear hfz28_0
      try clear hfz28_1
      try clear hfz28_2
      try clear hfz28_3
      try clear hfz28_4
      try clear hfz30_0
      try clear hfz30_1
      try clear hfz30_2
      try clear hfz31_0
      try clear hfz31_1
      try clear hfz31_2
      try clear hfz35_0
      try clear hfz35_1
      try clear hfz35_2
      try clear hfz35_3
      try clear hfz35_4
      try clear hfz37_0
      try clear hfz37_1
      try clear hfz37_2
      try clear hfz41_0
      try clear hfz41_1
      try clear hfz41_2
      try clear hfz41_3
      try clear hfz41_4
      try clear hfz43_0
      try clear hfz43_1
      try clear hfz43_2
      try clear hfz47_0
      try clear hfz47_1
      try clear hfz47_2
      try clear hfz47_3
      try clear hfz47_4
      try clear hfz49_0
      try clear hfz49_1
      try clear hfz49_2
      try clear p2
      obtain ⟨kq, x40_31, rfl, HA, HJ31, BK395, BK396, BK397, HB⟩ := hcut; cases kq with
      | zero => exact absurd HA.out (by simp [tapearchiveref26_Accept.j1])
      | succ kj31 =>
       have H := HA.out; clear HA; simp only [tapearchiveref26_Accept.j1] at H
       by_cases c50 : x40_31 = true
       ·
        subst c50; have H1 : (some (0, 0, ([] : List (S79)), 0, 9)) = some (r1, r2, r3, r4, r5) := by rw [if_pos rfl] at H; exact H
        clear H; have H := H1; clear H1; simp only [Option.some.injEq, Prod.mk.injEq] at H; obtain ⟨rfl, rfl, rfl, rfl, rfl⟩ := H; have hnb51 := NB397_395.out; have hnc51 := NB395_397.out; have hnb52 := NB397_396.out; have hnc52 := NB396_397.out; have hcz53_0 : wc.cell? ⟨gb397, 0, none⟩ = some (.int .i64 0) := (bc_ BK397.out 0).trans rfl; have hcz53_1 : wc.cell? ⟨gb397, 1, none⟩ = some (.int .i64 0) := (bc_ BK397.out 1).trans rfl; have hcz53_2 : wc.cell? ⟨gb397, 2, none⟩ = some (.slice none 0 0) := (bc_ BK397.out 2).trans rfl; have hfz53_0 := bf_ BK397.out 0; have hfz53_1 := bf_ BK397.out 1; have hfz53_2 := bf_ BK397.out 2; go_wp2
        repeat (go_quiet (fail); try go_wp2)
        refine bodyPost_ret (results_ctt rfl _ _ gb397 24 #[.int .i64 0, .int .i64 0, .slice none 0 0] (0, 0) _ rfl (by (with_reducible repeat (first | refine bn_ ?_ _ | refine bd_ ?_ | refine ba_ ?_ _)); refine blk_put (cs := #[.int .i64 0, .int .i64 0, .slice none 0 0]) ?_ 2 _ rfl; (with_reducible repeat (first | refine bn_ ?_ _ | refine bd_ ?_ | refine ba_ ?_ _)); refine blk_put (cs := #[.int .i64 0, .int .i64 0, .slice none 0 0]) ?_ 1 _ rfl; (with_reducible repeat (first | refine bn_ ?_ _ | refine bd_ ?_ | refine ba_ ?_ _)); refine blk_put (cs := #[.int .i64 0, .int .i64 0, .slice none 0 0]) ?_ 0 _ rfl; (with_reducible repeat (first | refine bn_ ?_ _ | refine bd_ ?_ | refine ba_ ?_ _)); exact BK397.out) Try.underlying24 rfl (by kernel_rfl)) rfl ?_; exact ⟨_, by first | rfl | (simp [errW_none, errW_some] <;> rfl) | (simp [*, errW_none, errW_some] <;> rfl), by first | exact Kd.S_nil _ _ _ _ _ | exact Kd.N_nil _ _ _ _ _ | exact Kd.V_nil _ _ _ _ _ | exact Kd.Q_nil _ _ _ _ _ | exact Kd.R_nil _ _ _ _ _, pb3_ HB.out GE395.out GE396.out GE397.out⟩
       ·
        replace c50 := Bool.eq_false_iff.mpr c50; subst c50; have H1 : (tapearchiveref26_Accept.l0 kj31 0 a0_0 a0_1 l0_2 a1_0 a1_1 a1_2 l1_3 a1_4) = some (r1, r2, r3, r4, r5) := by rw [if_neg (show ¬ (false = true) by decide)] at H; exact H
        clear H; have H := H1; clear H1; have HC54 := am_ H; clear H
        go_upto_block 0 with (fail)
        repeat (go_quiet (fail); go_upto_block 0 with (fail))
        go_cut [7] (fun v7 wc => ∃ (kq : Nat) (x7_53 : Int), v7 = .int .i64 x7_53 ∧ Aside0 (tapearchiveref26_Accept.j3 kq x7_53 a0_0 a0_1 l0_2 a1_0 a1_1 a1_2 l1_3 a1_4 = some (r1, r2, r3, r4, r5)) ∧ Aside0 (kq ≤ kj31) ∧ Aside0 (wc.heap[gb395]? = some (.cells #[.int .i64 a0_0, .int .i64 a0_1, (.slice A0_2 l0_2.length c0_2)] 24 (0, 0))) ∧ Aside0 (wc.heap[gb396]? = some (.cells #[.int .i64 a1_0, .int .i64 a1_1, .int .i64 a1_2, (.slice A1_3 l1_3.length c1_3), .int .i64 a1_4] 38 (0, 0))) ∧ Aside0 (wc.heap[gb397]? = some (.cells #[.int .i64 0, .int .i64 0, (.slice none 0 0)] 24 (0, 0))) ∧ Aside0 (Below w.heap.size w wc))
        case first =>
         have H := HC54.out; clear HC54; have H' := am_ H; clear H; go_wp2
         repeat (go_quiet (fail); try go_wp2)
         go_loopg [7] kj31 (fun kq v7 w' => ∃ (x7_3 : Int), v7 = .int .i64 x7_3 ∧ Aside0 (tapearchiveref26_Accept.l0 kq x7_3 a0_0 a0_1 l0_2 a1_0 a1_1 a1_2 l1_3 a1_4 = some (r1, r2, r3, r4, r5)) ∧ Aside0 (kq ≤ kj31) ∧ Aside0 (w'.heap[gb395]? = some (.cells #[.int .i64 a0_0, .int .i64 a0_1, (.slice A0_2 l0_2.length c0_2)] 24 (0, 0))) ∧ Aside0 (w'.heap[gb396]? = some (.cells #[.int .i64 a1_0, .int .i64 a1_1, .int .i64 a1_2, (.slice A1_3 l1_3.length c1_3), .int .i64 a1_4] 38 (0, 0))) ∧ Aside0 (w'.heap[gb397]? = some (.cells #[.int .i64 0, .int .i64 0, (.slice none 0 0)] 24 (0, 0))) ∧ Aside0 (Below w.heap.size w w'))
         case atStart => exact ⟨(0), (by first | rfl | (simp; done) | (simp [*]; done)), H', ⟨Nat.le_refl _⟩, ⟨by (with_reducible repeat (first | refine bn_ ?_ _ | refine bd_ ?_ | refine ba_ ?_ _)); exact BK395.out⟩, ⟨by (with_reducible repeat (first | refine bn_ ?_ _ | refine bd_ ?_ | refine ba_ ?_ _)); exact BK396.out⟩, ⟨by (with_reducible repeat (first | refine bn_ ?_ _ | refine bd_ ?_ | refine ba_ ?_ _)); exact BK397.out⟩, ⟨pb3_ HB.out GE395.out GE396.out GE397.out⟩⟩
         case round =>
          clear H'
          try clear c1
          try clear c2
          try clear p2
          try clear c3
          try clear c4
          try clear c5
          try clear c8
          try clear c10
          try clear c11
          try clear c14
          try clear c17
          try clear c18
          try clear c19
          try clear c21
          try clear c22
          try clear c23
          try clear c25
          try clear c25b0
          try clear c26
          try clear c27
          try clear c29
          try clear c33
          try clear c34
          try clear c36
          try clear c38
          try clear c38b0
          try clear c38b2
          try clear c39
          try clear c40
          try clear c42
          try clear c45
          try clear c46
          try clear c48
          try clear c50
          try clear c51
          try clear c52
          try clear hcz12_0
          try clear hcz12_1
          try clear hcz12_2
          try clear hcz15_0
          try clear hcz15_1
          try clear hcz15_2
          try clear hcz15_3
          try clear hcz15_4
          try clear hcz19_0
          try clear hcz19_1
          try clear hcz19_2
          try clear hcz24_0
          try clear hcz24_1
          try clear hcz24_2
          try clear hcz28_0
          try clear hcz28_1
          try clear hcz28_2
          try clear hcz28_3
          try clear hcz28_4
          try clear hcz30_0
          try clear hcz30_1
          try clear hcz30_2
          try clear hcz31_0
          try clear hcz31_1
          try clear hcz31_2
          try clear hcz35_0
          try clear hcz35_1
          try clear hcz35_2
          try clear hcz35_3
          try clear hcz35_4
          try clear hcz37_0
          try clear hcz37_1
          try clear hcz37_2
          try clear hcz41_0
          try clear hcz41_1
          try clear hcz41_2
          try clear hcz41_3
          try clear hcz41_4
          try clear hcz43_0
          try clear hcz43_1
          try clear hcz43_2
          try clear hcz47_0
          try clear hcz47_1
          try clear hcz47_2
          try clear hcz47_3
          try clear hcz47_4
          try clear hcz49_0
          try clear hcz49_1
          try clear hcz49_2
          try clear hcz53_0
          try clear hcz53_1
          try clear hcz53_2
          try clear hfz12_0
          try clear hfz12_1
          try clear hfz12_2
          try clear hfz15_0
          try clear hfz15_1
          try clear hfz15_2
          try clear hfz15_3
          try clear hfz15_4
          try clear hfz19_0
          try clear hfz19_1
          try clear hfz19_2
          try clear hfz24_0
          try clear hfz24_1
          try clear hfz24_2
          try clear hfz28_0
          try clear hfz28_1
          try clear hfz28_2
          try clear hfz28_3
          try clear hfz28_4
          try clear hfz30_0
          try clear hfz30_1
          try clear hfz30_2
          try clear hfz31_0
          try clear hfz31_1
          try clear hfz31_2
          try clear hfz35_0
          try clear hfz35_1
          try clear hfz35_2
          try clear hfz35_3
          try clear hfz35_4
          try clear hfz37_0
          try clear hfz37_1
          try clear hfz37_2
          try clear hfz41_0
          try clear hfz41_1
          try clear hfz41_2
          try clear hfz41_3
          try clear hfz41_4
          try clear hfz43_0
          try clear hfz43_1
          try clear hfz43_2
          try clear hfz47_0
          try clear hfz47_1
          try clear hfz47_2
          try clear hfz47_3
          try clear hfz47_4
          try clear hfz49_0
          try clear hfz49_1
          try clear hfz49_2
          try clear hfz53_0
          try clear hfz53_1
          try clear hfz53_2
          try clear p2
          obtain ⟨x7_3, rfl, HA, HK3, BK395, BK396, BK397, HB⟩ := hrel; cases gk with
          | zero => exact absurd HA.out (by simp [tapearchiveref26_Accept.l0])
          | succ k3 =>
           have H := HA.out; clear HA; simp only [tapearchiveref26_Accept.l0] at H
           by_cases c55 : x7_3 < (l1_3.length : Int)
           ·
            rw [if_pos c55] at H; have c55b0 : decide (x7_3 < (l1_3.length : Int)) = true := de_ c55; clear c55
            (first | rw [c55b0] | (simp only [i64_w, i32_w]; rw [c55b0]) | rw [c55b2] | skip)
            by_cases c56 : (wrap64 (a1_1 + x7_3)) < (l0_2.length : Int)
            ·
             rw [if_pos c56] at H; have c56b0 : decide ((wrap64 (a1_1 + x7_3)) < (l0_2.length : Int)) = true := de_ c56; clear c56; obtain ⟨ji57, hji57⟩ : ∃ j_ : Int, (wrap64 (a1_1 + x7_3)) = j_ := ⟨_, rfl⟩; replace H : (if 0 ≤ (ji57) then (if 0 ≤ x7_3 then (if ((rd_T79 l0_2 (ji57)).f0) = ((rd_T79 l1_3 x7_3).f0) then (tapearchiveref26_Accept.l0 k3 (wrap64 (x7_3 + 1)) a0_0 a0_1 l0_2 a1_0 a1_1 a1_2 l1_3 a1_4) else (tapearchiveref26_Accept.j3 k3 x7_3 a0_0 a0_1 l0_2 a1_0 a1_1 a1_2 l1_3 a1_4)) else (none)) else (none)) = some (r1, r2, r3, r4, r5) := by first | (rw [hji57] at H; exact H) | (simp only [hji57] at H ⊢; exact H)
             (try rw [hji57] at c56b0)
             have hji57w : (IntKind.i64.wrap (a1_1 + x7_3)) = ji57 := (i64_w _).trans hji57
             by_cases c58 : 0 ≤ (ji57)
             ·
              rw [if_pos c58] at H; have c58b0 : decide (0 ≤ (ji57)) = true := de_ c58; clear c58
              by_cases c59 : 0 ≤ x7_3
              ·
               rw [if_pos c59] at H; have c59b0 : decide (0 ≤ x7_3) = true := de_ c59; clear c59
               by_cases c60 : ((rd_T79 l0_2 (ji57)).f0) = ((rd_T79 l1_3 x7_3).f0)
               ·
                rw [if_pos c60] at H; have c60b0 : (((rd_T79 l0_2 (ji57)).f0) == ((rd_T79 l1_3 x7_3).f0)) = true := beq_iff_eq.mpr c60; have c60b1 : (((rd_T79 l0_2 (ji57)).f0) != ((rd_T79 l1_3 x7_3).f0)) = false := bne_eq_false_iff_eq.mpr c60; clear c60; have H' := am_ H; clear H; have hnb61 := NB396_395.out; have hnc61 := NB395_396.out; have hnb62 := NB396_397.out; have hnc62 := NB397_396.out; have hcz63_0 : wr.cell? ⟨gb396, 0, none⟩ = some (.int .i64 a1_0) := (bc_ BK396.out 0).trans rfl; have hcz63_1 : wr.cell? ⟨gb396, 1, none⟩ = some (.int .i64 a1_1) := (bc_ BK396.out 1).trans rfl; have hcz63_2 : wr.cell? ⟨gb396, 2, none⟩ = some (.int .i64 a1_2) := (bc_ BK396.out 2).trans rfl; have hcz63_3 : wr.cell? ⟨gb396, 3, none⟩ = some (.slice A1_3 l1_3.length c1_3) := (bc_ BK396.out 3).trans rfl; have hcz63_4 : wr.cell? ⟨gb396, 4, none⟩ = some (.int .i64 a1_4) := (bc_ BK396.out 4).trans rfl; have hfz63_0 := bf_ BK396.out 0; have hfz63_1 := bf_ BK396.out 1; have hfz63_2 := bf_ BK396.out 2; have hfz63_3 := bf_ BK396.out 3; have hfz63_4 := bf_ BK396.out 4; have hnb64 := NB395_397.out; have hnc64 := NB397_395.out; have hcz65_0 : wr.cell? ⟨gb395, 0, none⟩ = some (.int .i64 a0_0) := (bc_ BK395.out 0).trans rfl; have hcz65_1 : wr.cell? ⟨gb395, 1, none⟩ = some (.int .i64 a0_1) := (bc_ BK395.out 1).trans rfl; have hcz65_2 : wr.cell? ⟨gb395, 2, none⟩ = some (.slice A0_2 l0_2.length c0_2) := (bc_ BK395.out 2).trans rfl; have hfz65_0 := bf_ BK395.out 0; have hfz65_1 := bf_ BK395.out 1; have hfz65_2 := bf_ BK395.out 2; have p401 : 0 ≤ ((ji57) : Int) := ot_ (by first | (with_reducible assumption) | assumption); have q401 : (ji57) < (l0_2.length : Int) := ot_ (by first | (with_reducible assumption) | assumption); obtain ⟨ad401, A401_1, c401_1, e401, hx401_0, hx401_1, hl401_1, hi401_1⟩ := at_T79 HR0_2.out (ji57) p401 q401; cases e401; replace hx401_0 := (HB.out.cell (bk_ w _ hx401_0)).trans hx401_0; replace hx401_1 := (HB.out.cell (bk_ w _ hx401_1)).trans hx401_1; have HR401_1 := am_ hi401_1; have HC401_1 := am_ hl401_1; clear hi401_1 hl401_1; replace p401 := eq_true p401; replace q401 := eq_true q401; have p402 : 0 ≤ (x7_3 : Int) := ot_ (by first | (with_reducible assumption) | assumption); have q402 : x7_3 < (l1_3.length : Int) := ot_ (by first | (with_reducible assumption) | assumption); obtain ⟨ad402, A402_1, c402_1, e402, hx402_0, hx402_1, hl402_1, hi402_1⟩ := at_T79 HR1_3.out x7_3 p402 q402; cases e402; replace hx402_0 := (HB.out.cell (bk_ w _ hx402_0)).trans hx402_0; replace hx402_1 := (HB.out.cell (bk_ w _ hx402_1)).trans hx402_1; have HR402_1 := am_ hi402_1; have HC402_1 := am_ hl402_1; clear hi402_1 hl402_1; replace p402 := eq_true p402; replace q402 := eq_true q402; go_wp2
                repeat (go_quiet (fail); try go_wp2)
                go_roundg k3
                case measure => have := HJ2.out; have := HJ31.out; have := HK3.out; omega
                case rel => exact ⟨(wrap64 (x7_3 + 1)), (by first | rfl | (simp; done) | (simp [*]; done)), H', ⟨by have := HJ2.out; have := HJ31.out; have := HK3.out; omega⟩, ⟨by (with_reducible repeat (first | refine bn_ ?_ _ | refine bd_ ?_ | refine ba_ ?_ _)); exact BK395.out⟩, ⟨by (with_reducible repeat (first | refine bn_ ?_ _ | refine bd_ ?_ | refine ba_ ?_ _)); exact BK396.out⟩, ⟨by (with_reducible repeat (first | refine bn_ ?_ _ | refine bd_ ?_ | refine ba_ ?_ _)); exact BK397.out⟩, ⟨pb3_ HB.out GE395.out GE396.out GE397.out⟩⟩
               ·
                rw [if_neg c60] at H; have c60b0 : (((rd_T79 l0_2 (ji57)).f0) == ((rd_T79 l1_3 x7_3).f0)) = false := beq_eq_false_iff_ne.mpr c60; have c60b1 : (((rd_T79 l0_2 (ji57)).f0) != ((rd_T79 l1_3 x7_3).f0)) = true := bne_iff_ne.mpr c60; have H' := am_ H; clear H; have hnb66 := NB396_395.out; have hnc66 := NB395_396.out; have hnb67 := NB396_397.out; have hnc67 := NB397_396.out; have hcz68_0 : wr.cell? ⟨gb396, 0, none⟩ = some (.int .i64 a1_0) := (bc_ BK396.out 0).trans rfl; have hcz68_1 : wr.cell? ⟨gb396, 1, none⟩ = some (.int .i64 a1_1) := (bc_ BK396.out 1).trans rfl; have hcz68_2 : wr.cell? ⟨gb396, 2, none⟩ = some (.int .i64 a1_2) := (bc_ BK396.out 2).trans rfl; have hcz68_3 : wr.cell? ⟨gb396, 3, none⟩ = some (.slice A1_3 l1_3.length c1_3) := (bc_ BK396.out 3).trans rfl; have hcz68_4 : wr.cell? ⟨gb396, 4, none⟩ = some (.int .i64 a1_4) := (bc_ BK396.out 4).trans rfl; have hfz68_0 := bf_ BK396.out 0; have hfz68_1 := bf_ BK396.out 1; have hfz68_2 := bf_ BK396.out 2; have hfz68_3 := bf_ BK396.out 3; have hfz68_4 := bf_ BK396.out 4; have hnb69 := NB395_397.out; have hnc69 := NB397_395.out; have hcz70_0 : wr.cell? ⟨gb395, 0, none⟩ = some (.int .i64 a0_0) := (bc_ BK395.out 0).trans rfl; have hcz70_1 : wr.cell? ⟨gb395, 1, none⟩ = some (.int .i64 a0_1) := (bc_ BK395.out 1).trans rfl; have hcz70_2 : wr.cell? ⟨gb395, 2, none⟩ = some (.slice A0_2 l0_2.length c0_2) := (bc_ BK395.out 2).trans rfl; have hfz70_0 := bf_ BK395.out 0; have hfz70_1 := bf_ BK395.out 1; have hfz70_2 := bf_ BK395.out 2; have p401 : 0 ≤ ((ji57) : Int) := ot_ (by first | (with_reducible assumption) | assumption); have q401 : (ji57) < (l0_2.length : Int) := ot_ (by first | (with_reducible assumption) | assumption); obtain ⟨ad401, A401_1, c401_1, e401, hx401_0, hx401_1, hl401_1, hi401_1⟩ := at_T79 HR0_2.out (ji57) p401 q401; cases e401; replace hx401_0 := (HB.out.cell (bk_ w _ hx401_0)).trans hx401_0; replace hx401_1 := (HB.out.cell (bk_ w _ hx401_1)).trans hx401_1; have HR401_1 := am_ hi401_1; have HC401_1 := am_ hl401_1; clear hi401_1 hl401_1; replace p401 := eq_true p401; replace q401 := eq_true q401; have p402 : 0 ≤ (x7_3 : Int) := ot_ (by first | (with_reducible assumption) | assumption); have q402 : x7_3 < (l1_3.length : Int) := ot_ (by first | (with_reducible assumption) | assumption); obtain ⟨ad402, A402_1, c402_1, e402, hx402_0, hx402_1, hl402_1, hi402_1⟩ := at_T79 HR1_3.out x7_3 p402 q402; cases e402; replace hx402_0 := (HB.out.cell (bk_ w _ hx402_0)).trans hx402_0; replace hx402_1 := (HB.out.cell (bk_ w _ hx402_1)).trans hx402_1; have HR402_1 := am_ hi402_1; have HC402_1 := am_ hl402_1; clear hi402_1 hl402_1; replace p402 := eq_true p402; replace q402 := eq_true q402; go_wp2
                repeat (go_quiet (fail); try go_wp2)
                go_meet
                case rel => exact ⟨_, (x7_3), (by first | rfl | (simp; done) | (simp [*]; done)), H', ⟨by have := HJ2.out; have := HJ31.out; have := HK3.out; first | omega | exact Nat.le_refl _⟩, ⟨by (with_reducible repeat (first | refine bn_ ?_ _ | refine bd_ ?_ | refine ba_ ?_ _)); exact BK395.out⟩, ⟨by (with_reducible repeat (first | refine bn_ ?_ _ | refine bd_ ?_ | refine ba_ ?_ _)); exact BK396.out⟩, ⟨by (with_reducible repeat (first | refine bn_ ?_ _ | refine bd_ ?_ | refine ba_ ?_ _)); exact BK397.out⟩, ⟨pb3_ HB.out GE395.out GE396.out GE397.out⟩⟩
              ·
               rw [if_neg c59] at H; exact absurd H (by simp)
             ·
              rw [if_neg c58] at H; exact absurd H (by simp)
            ·
             rw [if_neg c56] at H; have c56b0 : decide ((wrap64 (a1_1 + x7_3)) < (l0_2.length : Int)) = false := df_ c56; clear c56; have H' := am_ H; clear H; have hnb71 := NB396_395.out; have hnc71 := NB395_396.out; have hnb72 := NB396_397.out; have hnc72 := NB397_396.out; have hcz73_0 : wr.cell? ⟨gb396, 0, none⟩ = some (.int .i64 a1_0) := (bc_ BK396.out 0).trans rfl; have hcz73_1 : wr.cell? ⟨gb396, 1, none⟩ = some (.int .i64 a1_1) := (bc_ BK396.out 1).trans rfl; have hcz73_2 : wr.cell? ⟨gb396, 2, none⟩ = some (.int .i64 a1_2) := (bc_ BK396.out 2).trans rfl; have hcz73_3 : wr.cell? ⟨gb396, 3, none⟩ = some (.slice A1_3 l1_3.length c1_3) := (bc_ BK396.out 3).trans rfl; have hcz73_4 : wr.cell? ⟨gb396, 4, none⟩ = some (.int .i64 a1_4) := (bc_ BK396.out 4).trans rfl; have hfz73_0 := bf_ BK396.out 0; have hfz73_1 := bf_ BK396.out 1; have hfz73_2 := bf_ BK396.out 2; have hfz73_3 := bf_ BK396.out 3; have hfz73_4 := bf_ BK396.out 4; have hnb74 := NB395_397.out; have hnc74 := NB397_395.out; have hcz75_0 : wr.cell? ⟨gb395, 0, none⟩ = some (.int .i64 a0_0) := (bc_ BK395.out 0).trans rfl; have hcz75_1 : wr.cell? ⟨gb395, 1, none⟩ = some (.int .i64 a0_1) := (bc_ BK395.out 1).trans rfl; have hcz75_2 : wr.cell? ⟨gb395, 2, none⟩ = some (.slice A0_2 l0_2.length c0_2) := (bc_ BK395.out 2).trans rfl; have hfz75_0 := bf_ BK395.out 0; have hfz75_1 := bf_ BK395.out 1; have hfz75_2 := bf_ BK395.out 2; go_wp2
             repeat (go_quiet (fail); try go_wp2)
             go_meet
             case rel => exact ⟨_, (x7_3), (by first | rfl | (simp; done) | (simp [*]; done)), H', ⟨by have := HJ2.out; have := HJ31.out; have := HK3.out; first | omega | exact Nat.le_refl _⟩, ⟨by (with_reducible repeat (first | refine bn_ ?_ _ | refine bd_ ?_ | refine ba_ ?_ _)); exact BK395.out⟩, ⟨by (with_reducible repeat (first | refine bn_ ?_ _ | refine bd_ ?_ | refine ba_ ?_ _)); exact BK396.out⟩, ⟨by (with_reducible repeat (first | refine bn_ ?_ _ | refine bd_ ?_ | refine ba_ ?_ _)); exact BK397.out⟩, ⟨pb3_ HB.out GE395.out GE396.out GE397.out⟩⟩
           ·
            rw [if_neg c55] at H; have c55b0 : decide (x7_3 < (l1_3.length : Int)) = false := df_ c55; clear c55
            (first | rw [c55b0] | (simp only [i64_w, i32_w]; rw [c55b0]) | rw [c55b2] | skip)
            have H' := am_ H; clear H; have hnb76 := NB396_395.out; have hnc76 := NB395_396.out; have hnb77 := NB396_397.out; have hnc77 := NB397_396.out; have hcz78_0 : wr.cell? ⟨gb396, 0, none⟩ = some (.int .i64 a1_0) := (bc_ BK396.out 0).trans rfl; have hcz78_1 : wr.cell? ⟨gb396, 1, none⟩ = some (.int .i64 a1_1) := (bc_ BK396.out 1).trans rfl; have hcz78_2 : wr.cell? ⟨gb396, 2, none⟩ = some (.int .i64 a1_2) := (bc_ BK396.out 2).trans rfl; have hcz78_3 : wr.cell? ⟨gb396, 3, none⟩ = some (.slice A1_3 l1_3.length c1_3) := (bc_ BK396.out 3).trans rfl; have hcz78_4 : wr.cell? ⟨gb396, 4, none⟩ = some (.int .i64 a1_4) := (bc_ BK396.out 4).trans rfl; have hfz78_0 := bf_ BK396.out 0; have hfz78_1 := bf_ BK396.out 1; have hfz78_2 := bf_ BK396.out 2; have hfz78_3 := bf_ BK396.out 3; have hfz78_4 := bf_ BK396.out 4; go_wp2
            repeat (go_quiet (fail); try go_wp2)
            go_meet
            case rel => exact ⟨_, (x7_3), (by first | rfl | (simp; done) | (simp [*]; done)), H', ⟨by have := HJ2.out; have := HJ31.out; have := HK3.out; first | omega | exact Nat.le_refl _⟩, ⟨by (with_reducible repeat (first | refine bn_ ?_ _ | refine bd_ ?_ | refine ba_ ?_ _)); exact BK395.out⟩, ⟨by (with_reducible repeat (first | refine bn_ ?_ _ | refine bd_ ?_ | refine ba_ ?_ _)); exact BK396.out⟩, ⟨by (with_reducible repeat (first | refine bn_ ?_ _ | refine bd_ ?_ | refine ba_ ?_ _)); exact BK397.out⟩, ⟨pb3_ HB.out GE395.out GE396.out GE397.out⟩⟩
        case rest =>
         clear HC54
         try clear c1
         try clear c2
         try clear p2
         try clear c3
         try clear c4
         try clear p4
         try clear q4
         try clear hx4
         try clear c5
         try clear c6
         try clear p6
         try clear c7
         try clear c8
         try clear c10
         try clear c11
         try clear c14
         try clear c17
         try clear c18
         try clear c19
         try clear c21
         try clear c22
         try clear c23
         try clear c25
         try clear c25b0
         try clear c26
         try clear c27
         try clear c29
         try clear c33
         try clear c34
         try clear c36
         try clear c38
         try clear c38b0
         try clear c38b2
         try clear c39
         try clear c40
         try clear p40
         try clear q40
         try clear hx40
         try clear c42
         try clear c45
         try clear c46
         try clear c48
         try clear c50
         try clear c51
         try clear c52
         try clear c55
         try clear c55b0
         try clear c55b2
         try clear c56
         try clear c56b0
         try clear c58
         try clear c58b0
         try clear c59
         try clear c59b0
         try clear c60
         try clear c60b0
         try clear c60b1
         try clear c61
         try clear c62
         try clear c64
         try clear p64
         try clear c66
         try clear c67
         try clear c69
         try clear c71
         try clear c72
         try clear c74
         try clear c76
         try clear c77
         try clear hcz12_0
         try clear hcz12_1
         try clear hcz12_2
         try clear hcz15_0
         try clear hcz15_1
         try clear hcz15_2
         try clear hcz15_3
         try clear hcz15_4
         try clear hcz19_0
         try clear hcz19_1
         try clear hcz19_2
         try clear hcz24_0
         try clear hcz24_1
         try clear hcz24_2
         try clear hcz28_0
         try clear hcz28_1
         try clear hcz28_2
         try clear hcz28_3
         try clear hcz28_4
         try clear hcz30_0
         try clear hcz30_1
         try clear hcz30_2
         try clear hcz31_0
         try clear hcz31_1
         try clear hcz31_2
         try clear hcz35_0
         try clear hcz35_1
         try clear hcz35_2
         try clear hcz35_3
         try clear hcz35_4
         try clear hcz37_0
         try clear hcz37_1
         try clear hcz37_2
         try clear hcz41_0
         try clear hcz41_1
         try clear hcz41_2
         try clear hcz41_3
         try clear hcz41_4
         try clear hcz43_0
         try clear hcz43_1
         try clear hcz43_2
         try clear hcz47_0
         try clear hcz47_1
         try clear hcz47_2
         try clear hcz47_3
         try clear hcz47_4
         try clear hcz49_0
         try clear hcz49_1
         try clear hcz49_2
         try clear hcz53_0
         try clear hcz53_1
         try clear hcz53_2
         try clear hcz63_0
         try clear hcz63_1
         try clear hcz63_2
         try clear hcz63_3
         try clear hcz63_4
         try clear hcz65_0
         try clear hcz65_1
         try clear hcz65_2
         try clear hcz68_0
         try clear hcz68_1
         try clear hcz68_2
         try clear hcz68_3
         try clear hcz68_4
         try clear hcz70_0
         try clear hcz70_1
         try clear hcz70_2
         try clear hcz73_0
         try clear hcz73_1
         try clear hcz73_2
         try clear hcz73_3
         try clear hcz73_4
         try clear hcz75_0
         try clear hcz75_1
         try clear hcz75_2
         try clear hcz78_0
         try clear hcz78_1
         try clear hcz78_2
         try clear hcz78_3
         try clear hcz78_4
         try clear hfz12_0
         try clear hfz12_1
         try clear hfz12_2
         try clear hfz15_0
         try clear hfz15_1
         try clear hfz15_2
         try clear hfz15_3
         try clear hfz15_4
         try clear hfz19_0
         try clear hfz19_1
         try clear hfz19_2
         try clear hfz24_0
         try clear hfz24_1
         try clear hfz24_2
         try clear hfz28_0
         try clear hfz28_1
         try clear hfz28_2
         try clear hfz28_3
         try clear hfz28_4
         try clear hfz30_0
         try clear hfz30_1
         try clear hfz30_2
         try clear hfz31_0
         try clear hfz31_1
         try clear hfz31_2
         try clear hfz35_0
         try clear hfz35_1
         try clear hfz35_2
         try clear hfz35_3
         try clear hfz35_4
         try clear hfz37_0
         try clear hfz37_1
         try clear hfz37_2
         try clear hfz41_0
         try clear hfz41_1
         try clear hfz41_2
         try clear hfz41_3
         try clear hfz41_4
         try clear hfz43_0
         try clear hfz43_1
         try clear hfz43_2
         try clear hfz47_0
         try clear hfz47_1
         try clear hfz47_2
         try clear hfz47_3
         try clear hfz47_4
         try clear hfz49_0
         try clear hfz49_1
         try clear hfz49_2
         try clear hfz53_0
         try clear hfz53_1
         try clear hfz53_2
         try clear hfz63_0
         try clear hfz63_1
         try clear hfz63_2
         try clear hfz63_3
         try clear hfz63_4
         try clear hfz65_0
         try clear hfz65_1
         try clear hfz65_2
         try clear hfz68_0
         try clear hfz68_1
         try clear hfz68_2
         try clear hfz68_3
         try clear hfz68_4
         try clear hfz70_0
         try clear hfz70_1
         try clear hfz70_2
         try clear hfz73_0
         try clear hfz73_1
         try clear hfz73_2
         try clear hfz73_3
         try clear hfz73_4
         try clear hfz75_0
         try clear hfz75_1
         try clear hfz75_2
         try clear hfz78_0
         try clear hfz78_1
         try clear hfz78_2
         try clear hfz78_3
         try clear hfz78_4
         try clear hx401_0
         try clear hx401_1
         try clear hx402_0
         try clear hx402_1
         try clear p2
         try clear p401
         try clear p402
         try clear q401
         try clear q402
         obtain ⟨kq, x7_53, rfl, HA, HJ53, BK395, BK396, BK397, HB⟩ := hcut; cases kq with
         | zero => exact absurd HA.out (by simp [tapearchiveref26_Accept.j3])
         | succ kj53 =>
          have H := HA.out; clear HA; simp only [tapearchiveref26_Accept.j3] at H; replace H := Option.bind_eq_some_iff.mp H; obtain ⟨t403, A790, H⟩ := H; replace H : (if x7_53 < (l1_3.length : Int) then (if (wrap64 (a1_1 + x7_53)) < a0_1 then (some (0, 0, ([] : List (S79)), 0, 21)) else (if 0 ≤ (wrap64 (a1_1 + x7_53)) then (if (wrap64 (a1_1 + x7_53)) ≤ (t403.length : Int) then ((some (t403.take ((wrap64 (a1_1 + x7_53)) : Int).toNat : List (S79))).bind fun y406 => (if 0 ≤ x7_53 then (if x7_53 ≤ (l1_3.length : Int) then ((tapearchiveref26_copied.f kj53 (l1_3.drop (x7_53 : Int).toNat)).bind fun t413 => (if y406.length + t413.length < 4398046511104 then (some (a1_0, mx a0_1 (mn a1_4 (wrap64 (a1_1 + (l1_3.length : Int)))), (y406 ++ t413), wrap64 (a1_1 + (l1_3.length : Int)), 0)) else (none))) else (none)) else (none))) else (none)) else (none))) else (some (a1_0, mx a0_1 (mn a1_4 (wrap64 (a1_1 + (l1_3.length : Int)))), t403, wrap64 (a1_1 + (l1_3.length : Int)), 0))) = some (r1, r2, r3, r4, r5) := H; have A79 := am_ A790; clear A790
          by_cases c80 : x7_53 < (l1_3.length : Int)
          ·
           rw [if_pos c80] at H; have c80b0 : decide (x7_53 < (l1_3.length : Int)) = true := de_ c80; clear c80
           by_cases c81 : (wrap64 (a1_1 + x7_53)) < a0_1
           ·
            rw [if_pos c81] at H; have c81b0 : decide ((wrap64 (a1_1 + x7_53)) < a0_1) = true := de_ c81; clear c81; simp only [Option.some.injEq, Prod.mk.injEq] at H; obtain ⟨rfl, rfl, rfl, rfl, rfl⟩ := H; have hnb82 := NB395_396.out; have hnc82 := NB396_395.out; have hnb83 := NB395_397.out; have hnc83 := NB397_395.out; have hcz84_0 : wc.cell? ⟨gb395, 0, none⟩ = some (.int .i64 a0_0) := (bc_ BK395.out 0).trans rfl; have hcz84_1 : wc.cell? ⟨gb395, 1, none⟩ = some (.int .i64 a0_1) := (bc_ BK395.out 1).trans rfl; have hcz84_2 : wc.cell? ⟨gb395, 2, none⟩ = some (.slice A0_2 l0_2.length c0_2) := (bc_ BK395.out 2).trans rfl; have hfz84_0 := bf_ BK395.out 0; have hfz84_1 := bf_ BK395.out 1; have hfz84_2 := bf_ BK395.out 2
            go_wp2_with (first | (go_at_call 33; (with_reducible refine (tapearchiveref26_copied.calls kj53 _ _ l0_2 t403 _ ?side1 ?side2 A79.out).mono ?_); (case side1 => repeat (first | exact (Kd.C_below HR0_2.out HB.out) | (with_reducible refine Kd.C_alloc ?_ _) | (with_reducible refine Kd.C_drewN ?_ _) | (with_reducible refine Kd.C_drew ?_))); (case side2 => exact HC0_2.out); rintro e w85 ⟨v404, rfl, ho0, hb⟩; have n0_ := am_ (nl_ (nm_ (ok' := fun k_ => (w.heap.size ≤ k_) ∧ k_ ≠ gb395 ∧ k_ ≠ gb396 ∧ k_ ≠ gb397) (Kd.S_N (Kd.S_bound ho0)) (fun k_ hk_ => ⟨(Nat.le_trans (bz_ (pb3_ HB.out GE395.out GE396.out GE397.out)) hk_.2.1), (fb_ (g := gb395) (o := .cells #[.int .i64 a0_0, .int .i64 a0_1, .slice A0_2 l0_2.length c0_2] 24 (0, 0)) (pk_ BK395.out) k_ hk_.2.1), (fb_ (g := gb396) (o := .cells #[.int .i64 a1_0, .int .i64 a1_1, .int .i64 a1_2, .slice A1_3 l1_3.length c1_3, .int .i64 a1_4] 38 (0, 0)) (pk_ BK396.out) k_ hk_.2.1), (fb_ (g := gb397) (o := .cells #[.int .i64 0, .int .i64 0, .slice none 0 0] 24 (0, 0)) (pk_ BK397.out) k_ hk_.2.1)⟩)) (bz_ (pb3_ HB.out GE395.out GE396.out GE397.out))); have n1_ := am_ (bw_ (g := gb395) (o := .cells #[.int .i64 a0_0, .int .i64 a0_1, .slice A0_2 l0_2.length c0_2] 24 (0, 0)) (pk_ BK395.out) hb); have n2_ := am_ (bw_ (g := gb396) (o := .cells #[.int .i64 a1_0, .int .i64 a1_1, .int .i64 a1_2, .slice A1_3 l1_3.length c1_3, .int .i64 a1_4] 38 (0, 0)) (pk_ BK396.out) hb); have n3_ := am_ (bw_ (g := gb397) (o := .cells #[.int .i64 0, .int .i64 0, .slice none 0 0] 24 (0, 0)) (pk_ BK397.out) hb); have n4_ := am_ (sp_ (pb3_ HB.out GE395.out GE396.out GE397.out) hb); clear BK395; clear BK396; clear BK397; clear HB; have HO405 := n0_; have BK395 := n1_; have BK396 := n2_; have BK397 := n3_; have HB := n4_; clear n0_ n1_ n2_ n3_ n4_; (try clear hb); (try clear hb2); (try clear hk); (try clear hi); (try clear ho0); have hnb86 := NB396_397.out; have hnc86 := NB397_396.out; have hcz87_0 : w85.cell? ⟨gb396, 0, none⟩ = some (.int .i64 a1_0) := (bc_ BK396.out 0).trans rfl; have hcz87_1 : w85.cell? ⟨gb396, 1, none⟩ = some (.int .i64 a1_1) := (bc_ BK396.out 1).trans rfl; have hcz87_2 : w85.cell? ⟨gb396, 2, none⟩ = some (.int .i64 a1_2) := (bc_ BK396.out 2).trans rfl; have hcz87_3 : w85.cell? ⟨gb396, 3, none⟩ = some (.slice A1_3 l1_3.length c1_3) := (bc_ BK396.out 3).trans rfl; have hcz87_4 : w85.cell? ⟨gb396, 4, none⟩ = some (.int .i64 a1_4) := (bc_ BK396.out 4).trans rfl; have hfz87_0 := bf_ BK396.out 0; have hfz87_1 := bf_ BK396.out 1; have hfz87_2 := bf_ BK396.out 2; have hfz87_3 := bf_ BK396.out 3; have hfz87_4 := bf_ BK396.out 4; have hcz88_0 : w85.cell? ⟨gb395, 0, none⟩ = some (.int .i64 a0_0) := (bc_ BK395.out 0).trans rfl; have hcz88_1 : w85.cell? ⟨gb395, 1, none⟩ = some (.int .i64 a0_1) := (bc_ BK395.out 1).trans rfl; have hcz88_2 : w85.cell? ⟨gb395, 2, none⟩ = some (.slice A0_2 l0_2.length c0_2) := (bc_ BK395.out 2).trans rfl; have hfz88_0 := bf_ BK395.out 0; have hfz88_1 := bf_ BK395.out 1; have hfz88_2 := bf_ BK395.out 2; have hcz89_0 : w85.cell? ⟨gb397, 0, none⟩ = some (.int .i64 0) := (bc_ BK397.out 0).trans rfl; have hcz89_1 : w85.cell? ⟨gb397, 1, none⟩ = some (.int .i64 0) := (bc_ BK397.out 1).trans rfl; have hcz89_2 : w85.cell? ⟨gb397, 2, none⟩ = some (.slice none 0 0) := (bc_ BK397.out 2).trans rfl; have hfz89_0 := bf_ BK397.out 0; have hfz89_1 := bf_ BK397.out 1; have hfz89_2 := bf_ BK397.out 2))
            repeat (go_quiet (first | (go_at_call 33; (with_reducible refine (tapearchiveref26_copied.calls kj53 _ _ l0_2 t403 _ ?side1 ?side2 A79.out).mono ?_); (case side1 => repeat (first | exact (Kd.C_below HR0_2.out HB.out) | (with_reducible refine Kd.C_alloc ?_ _) | (with_reducible refine Kd.C_drewN ?_ _) | (with_reducible refine Kd.C_drew ?_))); (case side2 => exact HC0_2.out); rintro e w85 ⟨v404, rfl, ho0, hb⟩; have n0_ := am_ (nl_ (nm_ (ok' := fun k_ => (w.heap.size ≤ k_) ∧ k_ ≠ gb395 ∧ k_ ≠ gb396 ∧ k_ ≠ gb397) (Kd.S_N (Kd.S_bound ho0)) (fun k_ hk_ => ⟨(Nat.le_trans (bz_ (pb3_ HB.out GE395.out GE396.out GE397.out)) hk_.2.1), (fb_ (g := gb395) (o := .cells #[.int .i64 a0_0, .int .i64 a0_1, .slice A0_2 l0_2.length c0_2] 24 (0, 0)) (pk_ BK395.out) k_ hk_.2.1), (fb_ (g := gb396) (o := .cells #[.int .i64 a1_0, .int .i64 a1_1, .int .i64 a1_2, .slice A1_3 l1_3.length c1_3, .int .i64 a1_4] 38 (0, 0)) (pk_ BK396.out) k_ hk_.2.1), (fb_ (g := gb397) (o := .cells #[.int .i64 0, .int .i64 0, .slice none 0 0] 24 (0, 0)) (pk_ BK397.out) k_ hk_.2.1)⟩)) (bz_ (pb3_ HB.out GE395.out GE396.out GE397.out))); have n1_ := am_ (bw_ (g := gb395) (o := .cells #[.int .i64 a0_0, .int .i64 a0_1, .slice A0_2 l0_2.length c0_2] 24 (0, 0)) (pk_ BK395.out) hb); have n2_ := am_ (bw_ (g := gb396) (o := .cells #[.int .i64 a1_0, .int .i64 a1_1, .int .i64 a1_2, .slice A1_3 l1_3.length c1_3, .int .i64 a1_4] 38 (0, 0)) (pk_ BK396.out) hb); have n3_ := am_ (bw_ (g := gb397) (o := .cells #[.int .i64 0, .int .i64 0, .slice none 0 0] 24 (0, 0)) (pk_ BK397.out) hb); have n4_ := am_ (sp_ (pb3_ HB.out GE395.out GE396.out GE397.out) hb); clear BK395; clear BK396; clear BK397; clear HB; have HO405 := n0_; have BK395 := n1_; have BK396 := n2_; have BK397 := n3_; have HB := n4_; clear n0_ n1_ n2_ n3_ n4_; (try clear hb); (try clear hb2); (try clear hk); (try clear hi); (try clear ho0); have hnb86 := NB396_397.out; have hnc86 := NB397_396.out; have hcz87_0 : w85.cell? ⟨gb396, 0, none⟩ = some (.int .i64 a1_0) := (bc_ BK396.out 0).trans rfl; have hcz87_1 : w85.cell? ⟨gb396, 1, none⟩ = some (.int .i64 a1_1) := (bc_ BK396.out 1).trans rfl; have hcz87_2 : w85.cell? ⟨gb396, 2, none⟩ = some (.int .i64 a1_2) := (bc_ BK396.out 2).trans rfl; have hcz87_3 : w85.cell? ⟨gb396, 3, none⟩ = some (.slice A1_3 l1_3.length c1_3) := (bc_ BK396.out 3).trans rfl; have hcz87_4 : w85.cell? ⟨gb396, 4, none⟩ = some (.int .i64 a1_4) := (bc_ BK396.out 4).trans rfl; have hfz87_0 := bf_ BK396.out 0; have hfz87_1 := bf_ BK396.out 1; have hfz87_2 := bf_ BK396.out 2; have hfz87_3 := bf_ BK396.out 3; have hfz87_4 := bf_ BK396.out 4; have hcz88_0 : w85.cell? ⟨gb395, 0, none⟩ = some (.int .i64 a0_0) := (bc_ BK395.out 0).trans rfl; have hcz88_1 : w85.cell? ⟨gb395, 1, none⟩ = some (.int .i64 a0_1) := (bc_ BK395.out 1).trans rfl; have hcz88_2 : w85.cell? ⟨gb395, 2, none⟩ = some (.slice A0_2 l0_2.length c0_2) := (bc_ BK395.out 2).trans rfl; have hfz88_0 := bf_ BK395.out 0; have hfz88_1 := bf_ BK395.out 1; have hfz88_2 := bf_ BK395.out 2; have hcz89_0 : w85.cell? ⟨gb397, 0, none⟩ = some (.int .i64 0) := (bc_ BK397.out 0).trans rfl; have hcz89_1 : w85.cell? ⟨gb397, 1, none⟩ = some (.int .i64 0) := (bc_ BK397.out 1).trans rfl; have hcz89_2 : w85.cell? ⟨gb397, 2, none⟩ = some (.slice none 0 0) := (bc_ BK397.out 2).trans rfl; have hfz89_0 := bf_ BK397.out 0; have hfz89_1 := bf_ BK397.out 1; have hfz89_2 := bf_ BK397.out 2)); try go_wp2_with (first | (go_at_call 33; (with_reducible refine (tapearchiveref26_copied.calls kj53 _ _ l0_2 t403 _ ?side1 ?side2 A79.out).mono ?_); (case side1 => repeat (first | exact (Kd.C_below HR0_2.out HB.out) | (with_reducible refine Kd.C_alloc ?_ _) | (with_reducible refine Kd.C_drewN ?_ _) | (with_reducible refine Kd.C_drew ?_))); (case side2 => exact HC0_2.out); rintro e w85 ⟨v404, rfl, ho0, hb⟩; have n0_ := am_ (nl_ (nm_ (ok' := fun k_ => (w.heap.size ≤ k_) ∧ k_ ≠ gb395 ∧ k_ ≠ gb396 ∧ k_ ≠ gb397) (Kd.S_N (Kd.S_bound ho0)) (fun k_ hk_ => ⟨(Nat.le_trans (bz_ (pb3_ HB.out GE395.out GE396.out GE397.out)) hk_.2.1), (fb_ (g := gb395) (o := .cells #[.int .i64 a0_0, .int .i64 a0_1, .slice A0_2 l0_2.length c0_2] 24 (0, 0)) (pk_ BK395.out) k_ hk_.2.1), (fb_ (g := gb396) (o := .cells #[.int .i64 a1_0, .int .i64 a1_1, .int .i64 a1_2, .slice A1_3 l1_3.length c1_3, .int .i64 a1_4] 38 (0, 0)) (pk_ BK396.out) k_ hk_.2.1), (fb_ (g := gb397) (o := .cells #[.int .i64 0, .int .i64 0, .slice none 0 0] 24 (0, 0)) (pk_ BK397.out) k_ hk_.2.1)⟩)) (bz_ (pb3_ HB.out GE395.out GE396.out GE397.out))); have n1_ := am_ (bw_ (g := gb395) (o := .cells #[.int .i64 a0_0, .int .i64 a0_1, .slice A0_2 l0_2.length c0_2] 24 (0, 0)) (pk_ BK395.out) hb); have n2_ := am_ (bw_ (g := gb396) (o := .cells #[.int .i64 a1_0, .int .i64 a1_1, .int .i64 a1_2, .slice A1_3 l1_3.length c1_3, .int .i64 a1_4] 38 (0, 0)) (pk_ BK396.out) hb); have n3_ := am_ (bw_ (g := gb397) (o := .cells #[.int .i64 0, .int .i64 0, .slice none 0 0] 24 (0, 0)) (pk_ BK397.out) hb); have n4_ := am_ (sp_ (pb3_ HB.out GE395.out GE396.out GE397.out) hb); clear BK395; clear BK396; clear BK397; clear HB; have HO405 := n0_; have BK395 := n1_; have BK396 := n2_; have BK397 := n3_; have HB := n4_; clear n0_ n1_ n2_ n3_ n4_; (try clear hb); (try clear hb2); (try clear hk); (try clear hi); (try clear ho0); have hnb86 := NB396_397.out; have hnc86 := NB397_396.out; have hcz87_0 : w85.cell? ⟨gb396, 0, none⟩ = some (.int .i64 a1_0) := (bc_ BK396.out 0).trans rfl; have hcz87_1 : w85.cell? ⟨gb396, 1, none⟩ = some (.int .i64 a1_1) := (bc_ BK396.out 1).trans rfl; have hcz87_2 : w85.cell? ⟨gb396, 2, none⟩ = some (.int .i64 a1_2) := (bc_ BK396.out 2).trans rfl; have hcz87_3 : w85.cell? ⟨gb396, 3, none⟩ = some (.slice A1_3 l1_3.length c1_3) := (bc_ BK396.out 3).trans rfl; have hcz87_4 : w85.cell? ⟨gb396, 4, none⟩ = some (.int .i64 a1_4) := (bc_ BK396.out 4).trans rfl; have hfz87_0 := bf_ BK396.out 0; have hfz87_1 := bf_ BK396.out 1; have hfz87_2 := bf_ BK396.out 2; have hfz87_3 := bf_ BK396.out 3; have hfz87_4 := bf_ BK396.out 4; have hcz88_0 : w85.cell? ⟨gb395, 0, none⟩ = some (.int .i64 a0_0) := (bc_ BK395.out 0).trans rfl; have hcz88_1 : w85.cell? ⟨gb395, 1, none⟩ = some (.int .i64 a0_1) := (bc_ BK395.out 1).trans rfl; have hcz88_2 : w85.cell? ⟨gb395, 2, none⟩ = some (.slice A0_2 l0_2.length c0_2) := (bc_ BK395.out 2).trans rfl; have hfz88_0 := bf_ BK395.out 0; have hfz88_1 := bf_ BK395.out 1; have hfz88_2 := bf_ BK395.out 2; have hcz89_0 : w85.cell? ⟨gb397, 0, none⟩ = some (.int .i64 0) := (bc_ BK397.out 0).trans rfl; have hcz89_1 : w85.cell? ⟨gb397, 1, none⟩ = some (.int .i64 0) := (bc_ BK397.out 1).trans rfl; have hcz89_2 : w85.cell? ⟨gb397, 2, none⟩ = some (.slice none 0 0) := (bc_ BK397.out 2).trans rfl; have hfz89_0 := bf_ BK397.out 0; have hfz89_1 := bf_ BK397.out 1; have hfz89_2 := bf_ BK397.out 2)))
            refine bodyPost_ret (results_ctt rfl _ _ gb397 24 #[.int .i64 0, .int .i64 0, .slice none 0 0] (0, 0) _ rfl (by (with_reducible repeat (first | refine bn_ ?_ _ | refine bd_ ?_ | refine ba_ ?_ _)); refine blk_put (cs := #[.int .i64 0, .int .i64 0, .slice none 0 0]) ?_ 2 _ rfl; (with_reducible repeat (first | refine bn_ ?_ _ | refine bd_ ?_ | refine ba_ ?_ _)); refine blk_put (cs := #[.int .i64 0, .int .i64 0, .slice none 0 0]) ?_ 1 _ rfl; (with_reducible repeat (first | refine bn_ ?_ _ | refine bd_ ?_ | refine ba_ ?_ _)); refine blk_put (cs := #[.int .i64 0, .int .i64 0, .slice none 0 0]) ?_ 0 _ rfl; (with_reducible repeat (first | refine bn_ ?_ _ | refine bd_ ?_ | refine ba_ ?_ _)); exact BK397.out) Try.underlying24 rfl (by kernel_rfl)) rfl ?_; exact ⟨_, by first | rfl | (simp [errW_none, errW_some] <;> rfl) | (simp [*, errW_none, errW_some] <;> rfl), by first | exact Kd.S_nil _ _ _ _ _ | exact Kd.N_nil _ _ _ _ _ | exact Kd.V_nil _ _ _ _ _ | exact Kd.Q_nil _ _ _ _ _ | exact Kd.R_nil _ _ _ _ _, pb3_ HB.out GE395.out GE396.out GE397.out⟩
           ·
            rw [if_neg c81] at H; have c81b0 : decide ((wrap64 (a1_1 + x7_53)) < a0_1) = false := df_ c81; clear c81; obtain ⟨ji90, hji90⟩ : ∃ j_ : Int, (wrap64 (a1_1 + x7_53)) = j_ := ⟨_, rfl⟩; replace H : (if 0 ≤ (ji90) then (if (ji90) ≤ (t403.length : Int) then ((some (t403.take ((ji90) : Int).toNat : List (S79))).bind fun y406 => (if 0 ≤ x7_53 then (if x7_53 ≤ (l1_3.length : Int) then ((tapearchiveref26_copied.f kj53 (l1_3.drop (x7_53 : Int).toNat)).bind fun t413 => (if y406.length + t413.length < 4398046511104 then (some (a1_0, mx a0_1 (mn a1_4 (wrap64 (a1_1 + (l1_3.length : Int)))), (y406 ++ t413), wrap64 (a1_1 + (l1_3.length : Int)), 0)) else (none))) else (none)) else (none))) else (none)) else (none)) = some (r1, r2, r3, r4, r5) := by first | (rw [hji90] at H; exact H) | (simp only [hji90] at H ⊢; exact H)
            (try rw [hji90] at c81b0)
            (try rw [hji90] at A79)
            have hji90w : (IntKind.i64.wrap (a1_1 + x7_53)) = ji90 := (i64_w _).trans hji90
            by_cases c91 : 0 ≤ (ji90)
            ·
             rw [if_pos c91] at H; have c91b0 := eq_true c91; have c91b1 : decide (0 ≤ (ji90)) = true := de_ c91; clear c91
             by_cases c92 : (ji90) ≤ (t403.length : Int)
             ·
              rw [if_pos c92] at H; have c92b0 := eq_true c92; have c92b1 : decide ((ji90) ≤ (t403.length : Int)) = true := de_ c92; clear c92; obtain ⟨y406, hy406⟩ : ∃ y_ : List (S79), y_ = (t403.take ((ji90) : Int).toNat) := ⟨_, rfl⟩; replace H : (if 0 ≤ x7_53 then (if x7_53 ≤ (l1_3.length : Int) then ((tapearchiveref26_copied.f kj53 (l1_3.drop (x7_53 : Int).toNat)).bind fun t413 => (if y406.length + t413.length < 4398046511104 then (some (a1_0, mx a0_1 (mn a1_4 (wrap64 (a1_1 + (l1_3.length : Int)))), (y406 ++ t413), wrap64 (a1_1 + (l1_3.length : Int)), 0)) else (none))) else (none)) else (none)) = some (r1, r2, r3, r4, r5) := by first | (rw [hy406]; with_reducible exact H) | (have H2_ := (Option.bind_some _ _).symm.trans H; rw [hy406]; with_reducible exact H2_) | (have H2_ := (Option.bind_some _ _).symm.trans H; with_reducible exact H2_) | with_reducible exact H | (rw [hy406]; exact H) | exact H
              have Ny406 := am_ hy406; clear hy406
              by_cases c93 : 0 ≤ x7_53
              ·
               rw [if_pos c93] at H; have c93b0 := eq_true c93; have c93b1 : decide (0 ≤ x7_53) = true := de_ c93; clear c93
               by_cases c94 : x7_53 ≤ (l1_3.length : Int)
               ·
                rw [if_pos c94] at H; have c94b0 := eq_true c94; have c94b1 : decide (x7_53 ≤ (l1_3.length : Int)) = true := de_ c94; clear c94; obtain ⟨y409, hy409⟩ : ∃ y_ : List (S79), y_ = (l1_3.drop (x7_53 : Int).toNat) := ⟨_, rfl⟩; replace H : ((tapearchiveref26_copied.f kj53 y409).bind fun t413 => (if y406.length + t413.length < 4398046511104 then (some (a1_0, mx a0_1 (mn a1_4 (wrap64 (a1_1 + (l1_3.length : Int)))), (y406 ++ t413), wrap64 (a1_1 + (l1_3.length : Int)), 0)) else (none))) = some (r1, r2, r3, r4, r5) := by first | (rw [hy409]; with_reducible exact H) | (have H2_ := (Option.bind_some _ _).symm.trans H; rw [hy409]; with_reducible exact H2_) | (have H2_ := (Option.bind_some _ _).symm.trans H; with_reducible exact H2_) | with_reducible exact H | (rw [hy409]; exact H) | exact H
                have Ny409 := am_ hy409; clear hy409; replace H := Option.bind_eq_some_iff.mp H; obtain ⟨t413, A950, H⟩ := H; replace H : (if y406.length + t413.length < 4398046511104 then (some (a1_0, mx a0_1 (mn a1_4 (wrap64 (a1_1 + (l1_3.length : Int)))), (y406 ++ t413), wrap64 (a1_1 + (l1_3.length : Int)), 0)) else (none)) = some (r1, r2, r3, r4, r5) := H; have A95 := am_ A950; clear A950
                by_cases c96 : y406.length + t413.length < 4398046511104
                ·
                 rw [if_pos c96] at H; have LMc96 := am_ c96; clear c96; obtain ⟨y416, hy416⟩ : ∃ y_ : List (S79), y_ = (y406 ++ t413) := ⟨_, rfl⟩; replace H : (some (a1_0, mx a0_1 (mn a1_4 (wrap64 (a1_1 + (l1_3.length : Int)))), y416, wrap64 (a1_1 + (l1_3.length : Int)), 0)) = some (r1, r2, r3, r4, r5) := by first | (rw [hy416]; with_reducible exact H) | (have H2_ := (Option.bind_some _ _).symm.trans H; rw [hy416]; with_reducible exact H2_) | (have H2_ := (Option.bind_some _ _).symm.trans H; with_reducible exact H2_) | with_reducible exact H | (rw [hy416]; exact H) | exact H
                 have Ny416 := am_ hy416; clear hy416; obtain ⟨ji97, hji97⟩ : ∃ j_ : Int, (mn a1_4 (wrap64 (a1_1 + (l1_3.length : Int)))) = j_ := ⟨_, rfl⟩; replace H : (some (a1_0, mx a0_1 (ji97), y416, wrap64 (a1_1 + (l1_3.length : Int)), 0)) = some (r1, r2, r3, r4, r5) := by first | (rw [hji97] at H; exact H) | (simp only [hji97] at H ⊢; exact H)
                 (try rw [hji97] at A79)
                 (try rw [hji97] at A95)
                 have hji97_ : (if (wrap64 (a1_1 + (l1_3.length : Int))) < a1_4 then (wrap64 (a1_1 + (l1_3.length : Int))) else a1_4) = ji97 := hji97; obtain ⟨ji98, hji98⟩ : ∃ j_ : Int, (mx a0_1 (ji97)) = j_ := ⟨_, rfl⟩; replace H : (some (a1_0, ji98, y416, wrap64 (a1_1 + (l1_3.length : Int)), 0)) = some (r1, r2, r3, r4, r5) := by first | (rw [hji98] at H; exact H) | (simp only [hji98] at H ⊢; exact H)
                 (try rw [hji98] at A79)
                 (try rw [hji98] at A95)
                 have hji98_ : (if a0_1 < (ji97) then (ji97) else a0_1) = ji98 := hji98; simp only [Option.some.injEq, Prod.mk.injEq] at H; obtain ⟨rfl, rfl, rfl, rfl, rfl⟩ := H; have hnb99 := NB395_396.out; have hnc99 := NB396_395.out; have hnb100 := NB395_397.out; have hnc100 := NB397_395.out; have hcz101_0 : wc.cell? ⟨gb395, 0, none⟩ = some (.int .i64 a0_0) := (bc_ BK395.out 0).trans rfl; have hcz101_1 : wc.cell? ⟨gb395, 1, none⟩ = some (.int .i64 a0_1) := (bc_ BK395.out 1).trans rfl; have hcz101_2 : wc.cell? ⟨gb395, 2, none⟩ = some (.slice A0_2 l0_2.length c0_2) := (bc_ BK395.out 2).trans rfl; have hfz101_0 := bf_ BK395.out 0; have hfz101_1 := bf_ BK395.out 1; have hfz101_2 := bf_ BK395.out 2
                 go_wp2_with (first | (go_at_call 33; (with_reducible refine (tapearchiveref26_copied.calls kj53 _ _ l0_2 t403 _ ?side1 ?side2 A79.out).mono ?_); (case side1 => repeat (first | exact (Kd.C_below HR0_2.out HB.out) | (with_reducible refine Kd.C_alloc ?_ _) | (with_reducible refine Kd.C_drewN ?_ _) | (with_reducible refine Kd.C_drew ?_))); (case side2 => exact HC0_2.out); rintro e w102 ⟨v404, rfl, ho0, hb⟩; have n0_ := am_ (nl_ (nm_ (ok' := fun k_ => (w.heap.size ≤ k_) ∧ k_ ≠ gb395 ∧ k_ ≠ gb396 ∧ k_ ≠ gb397) (Kd.S_N (Kd.S_bound ho0)) (fun k_ hk_ => ⟨(Nat.le_trans (bz_ (pb3_ HB.out GE395.out GE396.out GE397.out)) hk_.2.1), (fb_ (g := gb395) (o := .cells #[.int .i64 a0_0, .int .i64 a0_1, .slice A0_2 l0_2.length c0_2] 24 (0, 0)) (pk_ BK395.out) k_ hk_.2.1), (fb_ (g := gb396) (o := .cells #[.int .i64 a1_0, .int .i64 a1_1, .int .i64 a1_2, .slice A1_3 l1_3.length c1_3, .int .i64 a1_4] 38 (0, 0)) (pk_ BK396.out) k_ hk_.2.1), (fb_ (g := gb397) (o := .cells #[.int .i64 0, .int .i64 0, .slice none 0 0] 24 (0, 0)) (pk_ BK397.out) k_ hk_.2.1)⟩)) (bz_ (pb3_ HB.out GE395.out GE396.out GE397.out))); have n1_ := am_ (bw_ (g := gb395) (o := .cells #[.int .i64 a0_0, .int .i64 a0_1, .slice A0_2 l0_2.length c0_2] 24 (0, 0)) (pk_ BK395.out) hb); have n2_ := am_ (bw_ (g := gb396) (o := .cells #[.int .i64 a1_0, .int .i64 a1_1, .int .i64 a1_2, .slice A1_3 l1_3.length c1_3, .int .i64 a1_4] 38 (0, 0)) (pk_ BK396.out) hb); have n3_ := am_ (bw_ (g := gb397) (o := .cells #[.int .i64 0, .int .i64 0, .slice none 0 0] 24 (0, 0)) (pk_ BK397.out) hb); have n4_ := am_ (sp_ (pb3_ HB.out GE395.out GE396.out GE397.out) hb); clear BK395; clear BK396; clear BK397; clear HB; have HO405 := n0_; have BK395 := n1_; have BK396 := n2_; have BK397 := n3_; have HB := n4_; clear n0_ n1_ n2_ n3_ n4_; (try clear hb); (try clear hb2); (try clear hk); (try clear hi); (try clear ho0); have hnb103 := NB396_397.out; have hnc103 := NB397_396.out; have hcz104_0 : w102.cell? ⟨gb396, 0, none⟩ = some (.int .i64 a1_0) := (bc_ BK396.out 0).trans rfl; have hcz104_1 : w102.cell? ⟨gb396, 1, none⟩ = some (.int .i64 a1_1) := (bc_ BK396.out 1).trans rfl; have hcz104_2 : w102.cell? ⟨gb396, 2, none⟩ = some (.int .i64 a1_2) := (bc_ BK396.out 2).trans rfl; have hcz104_3 : w102.cell? ⟨gb396, 3, none⟩ = some (.slice A1_3 l1_3.length c1_3) := (bc_ BK396.out 3).trans rfl; have hcz104_4 : w102.cell? ⟨gb396, 4, none⟩ = some (.int .i64 a1_4) := (bc_ BK396.out 4).trans rfl; have hfz104_0 := bf_ BK396.out 0; have hfz104_1 := bf_ BK396.out 1; have hfz104_2 := bf_ BK396.out 2; have hfz104_3 := bf_ BK396.out 3; have hfz104_4 := bf_ BK396.out 4; have hcz105_0 : w102.cell? ⟨gb395, 0, none⟩ = some (.int .i64 a0_0) := (bc_ BK395.out 0).trans rfl; have hcz105_1 : w102.cell? ⟨gb395, 1, none⟩ = some (.int .i64 a0_1) := (bc_ BK395.out 1).trans rfl; have hcz105_2 : w102.cell? ⟨gb395, 2, none⟩ = some (.slice A0_2 l0_2.length c0_2) := (bc_ BK395.out 2).trans rfl; have hfz105_0 := bf_ BK395.out 0; have hfz105_1 := bf_ BK395.out 1; have hfz105_2 := bf_ BK395.out 2; obtain ⟨Ao106, co106, eo106⟩ := Kd.N_slice HO405.out; subst eo106; have q107 : ((ji90) : Int) ≤ ((t403.length : Int) : Int) := ot_ (by first | (with_reducible assumption) | assumption); obtain ⟨i0107, hi0107, _, hsz107, _⟩ := info_parts info79; have hcut107 := cut_to (P := Try.prog) 22 79 .i64 Try.underlying22 hi0107 Ao106 t403.length co106 (ji90) (ot_ (by first | (with_reducible assumption) | assumption)) q107 (Kd.N_reads' HO405.out).2.1; have hr107 := Kd.N_take (m := ((ji90) : Int).toNat) HO405.out (by omega); have hy107 : y406.length = ((ji90) : Int).toNat := (by rw [Ny406.out, List.length_take]; omega); rw [← Ny406.out] at hr107; rw [← hy107] at hr107 hcut107; clear hy107 hi0107 hsz107 HO405; have HO408 := am_ hr107; clear hr107; replace q107 := eq_true q107; have q108 : (x7_53 : Int) ≤ ((l1_3.length : Int) : Int) := ot_ (by first | (with_reducible assumption) | assumption); obtain ⟨i0108, hi0108, _, hsz108, _⟩ := info_parts info79; have hroom108 : l1_3.length ≤ c1_3 := HC1_3.out; have hC108 : Kd.C k79 _ A1_3 l1_3.length l1_3 := HR1_3.out; have q0108 : (0 : Int) ≤ (x7_53 : Int) := ot_ (by first | (with_reducible assumption) | assumption); have hcut108 := cut_from (P := Try.prog) 22 79 .i64 Try.underlying22 hi0108 2 hsz108 A1_3 l1_3.length c1_3 x7_53 q0108 q108; have hr108 := Kd.C_drop (m := (x7_53 : Int).toNat) (c := c1_3) hC108 (by omega) hroom108; obtain ⟨A108, hA108⟩ : ∃ A1, A1 = (if c1_3 = (x7_53 : Int).toNat then A1_3 else (A1_3 : Option Addr).map (·.add ((x7_53 : Int).toNat * 2))) := ⟨_, rfl⟩; obtain ⟨c108, hc108⟩ : ∃ c1, c1 = c1_3 - (x7_53 : Int).toNat := ⟨_, rfl⟩; have hy108 : y409.length = l1_3.length - (x7_53 : Int).toNat := (by rw [Ny409.out, List.length_drop] <;> omega); rw [show (l1_3).drop (x7_53 : Int).toNat = y409 from Ny409.out.symm] at hr108; replace hr108 : Kd.C k79 _ A108 y409.length y409 := (by rw [hA108]; exact hr108); rw [← hy108, ← hA108, ← hc108] at hcut108; have HR412 := am_ hr108; have HC412 := am_ (show y409.length ≤ c108 from by rw [hy108, hc108]; exact Nat.sub_le_sub_right hroom108 _); clear hr108 hC108 hroom108 hi0108 hsz108 hc108; have KY108 := am_ hy108; have KA108 := am_ hA108; clear hy108 hA108; replace q108 := eq_true q108) | (go_at_call 33; (with_reducible refine (tapearchiveref26_copied.calls kj53 _ _ y409 t413 _ ?side1 ?side2 A95.out).mono ?_); (case side1 => repeat (first | exact (Kd.C_below HR412.out HB.out) | (with_reducible refine Kd.C_alloc ?_ _) | (with_reducible refine Kd.C_drewN ?_ _) | (with_reducible refine Kd.C_drew ?_))); (case side2 => exact HC412.out); rintro e w109 ⟨v414, rfl, ho0, hb⟩; have n0_ := am_ (Kd.N_elder' (pN_ HO408.out) (by first | exact Kd.N_base ho0 | exact Kd.N_base (Kd.S_N ho0)) hb); have n1_ := am_ (nl_ (nm_ (ok' := fun k_ => (w.heap.size ≤ k_) ∧ some k_ ≠ (.slice Ao106 y406.length co106 : Value).ownBlock ∧ k_ ≠ gb395 ∧ k_ ≠ gb396 ∧ k_ ≠ gb397) (Kd.S_N (Kd.S_bound ho0)) (fun k_ hk_ => ⟨(Nat.le_trans (bz_ (pb3_ HB.out GE395.out GE396.out GE397.out)) hk_.2.1), (Kd.fresh' (Kd.N_lt (pN_ HO408.out)) k_ hk_.2.1), (fb_ (g := gb395) (o := .cells #[.int .i64 a0_0, .int .i64 a0_1, .slice A0_2 l0_2.length c0_2] 24 (0, 0)) (pk_ BK395.out) k_ hk_.2.1), (fb_ (g := gb396) (o := .cells #[.int .i64 a1_0, .int .i64 a1_1, .int .i64 a1_2, .slice A1_3 l1_3.length c1_3, .int .i64 a1_4] 38 (0, 0)) (pk_ BK396.out) k_ hk_.2.1), (fb_ (g := gb397) (o := .cells #[.int .i64 0, .int .i64 0, .slice none 0 0] 24 (0, 0)) (pk_ BK397.out) k_ hk_.2.1)⟩)) (bz_ (pb3_ HB.out GE395.out GE396.out GE397.out))); have n2_ := am_ (bw_ (g := gb395) (o := .cells #[.int .i64 a0_0, .int .i64 a0_1, .slice A0_2 l0_2.length c0_2] 24 (0, 0)) (pk_ BK395.out) hb); have n3_ := am_ (bw_ (g := gb396) (o := .cells #[.int .i64 a1_0, .int .i64 a1_1, .int .i64 a1_2, .slice A1_3 l1_3.length c1_3, .int .i64 a1_4] 38 (0, 0)) (pk_ BK396.out) hb); have n4_ := am_ (bw_ (g := gb397) (o := .cells #[.int .i64 0, .int .i64 0, .slice none 0 0] 24 (0, 0)) (pk_ BK397.out) hb); have n5_ := am_ (sp_ (pb3_ HB.out GE395.out GE396.out GE397.out) hb); clear HO408; clear BK395; clear BK396; clear BK397; clear HB; have HO408 := n0_; have HO415 := n1_; have BK395 := n2_; have BK396 := n3_; have BK397 := n4_; have HB := n5_; clear n0_ n1_ n2_ n3_ n4_ n5_; (try clear hb); (try clear hb2); (try clear hk); (try clear hi); (try clear ho0); obtain ⟨Ao111, co111, eo111⟩ := Kd.N_slice HO415.out; subst eo111) | ((with_reducible refine gate_builtin (b := .append) (xs := #[.tmp 99, .tmp 104]) rfl ?_); (try (refine gate_guard (by rfl) ?_; dsimp only)); at_builtin; refine Kd.N_append_rows k79 (w0 := w) w.heap.size rfl (.tmp 99) (.tmp 104) 22 79 (.agg #[(.int .i64 0), (.slice none 0 0)]) 32 rfl Try.underlying22 info79 rfl (by decide) (by omega) (.slice Ao106 y406.length co106) y406 t413 _ _ _ (fun k_ => (w.heap.size ≤ k_) ∧ k_ ≠ gb395 ∧ k_ ≠ gb396 ∧ k_ ≠ gb397) (fun k_ => ((fun k_ => (w.heap.size ≤ k_) ∧ k_ ≠ gb395 ∧ k_ ≠ gb396 ∧ k_ ≠ gb397)) k_ ∧ some k_ ≠ (.slice Ao106 y406.length co106 : Value).ownBlock) rfl rfl ?aO ?aR (fun _ hk => hk) ?aF ?aB ?aS ?aL ?_; (case aR => exact (by skip; exact Kd.N_F (nm_ (ok' := (fun k_ => ((fun k_ => (w.heap.size ≤ k_) ∧ k_ ≠ gb395 ∧ k_ ≠ gb396 ∧ k_ ≠ gb397)) k_ ∧ some k_ ≠ (.slice Ao106 y406.length co106 : Value).ownBlock)) (HO415.out) (fun k_ hk => ⟨⟨hk.1, ⟨hk.2.2.1, ⟨hk.2.2.2.1, hk.2.2.2.2⟩⟩⟩, hk.2.1⟩)))); (case aB => exact (pb3_ HB.out GE395.out GE396.out GE397.out)); (case aF => exact (fun k_ hk => ⟨(Nat.le_trans (bz_ (pb3_ HB.out GE395.out GE396.out GE397.out)) hk), fb_ (g := gb395) (o := .cells #[.int .i64 a0_0, .int .i64 a0_1, .slice A0_2 l0_2.length c0_2] 24 (0, 0)) (pk_ BK395.out) k_ hk, fb_ (g := gb396) (o := .cells #[.int .i64 a1_0, .int .i64 a1_1, .int .i64 a1_2, .slice A1_3 l1_3.length c1_3, .int .i64 a1_4] 38 (0, 0)) (pk_ BK396.out) k_ hk, fb_ (g := gb397) (o := .cells #[.int .i64 0, .int .i64 0, .slice none 0 0] 24 (0, 0)) (pk_ BK397.out) k_ hk⟩)); (case aO => exact (by (with_reducible repeat (first | apply na_ | apply nn_ | apply nd_)); exact nm_ HO408.out (fun _ hk => ⟨hk.1.1, ⟨hk.1.2.1, ⟨hk.1.2.2.1, hk.1.2.2.2⟩⟩⟩))); (case aS => exact (bz_ (pb3_ HB.out GE395.out GE396.out GE397.out))); (case aL => have := LMc96.out; omega); intro v417 w110 ho hb hg hat; rw [← Ny416.out] at ho; have n0_ := am_ (blk_grown (g := gb395) (o := .cells #[.int .i64 a0_0, .int .i64 a0_1, .slice A0_2 l0_2.length c0_2] 24 (0, 0)) (pk_ BK395.out) hg (Kd.N_ne HO408.out BK395.out (by decide))); have n1_ := am_ (blk_grown (g := gb396) (o := .cells #[.int .i64 a1_0, .int .i64 a1_1, .int .i64 a1_2, .slice A1_3 l1_3.length c1_3, .int .i64 a1_4] 38 (0, 0)) (pk_ BK396.out) hg (Kd.N_ne HO408.out BK396.out (by decide))); have n2_ := am_ (blk_grown (g := gb397) (o := .cells #[.int .i64 0, .int .i64 0, .slice none 0 0] 24 (0, 0)) (pk_ BK397.out) hg (Kd.N_ne HO408.out BK397.out (by decide))); have n3_ := am_ (Kd.N_afterv (ok := (fun k_ => (w.heap.size ≤ k_) ∧ k_ ≠ gb395 ∧ k_ ≠ gb396 ∧ k_ ≠ gb397)) (by (with_reducible repeat (first | apply na_ | apply nn_ | apply nd_)); exact nm_ HO415.out (fun _ hk => ⟨⟨hk.1, ⟨hk.2.2.1, ⟨hk.2.2.2.1, hk.2.2.2.2⟩⟩⟩, hk.2.1⟩)) hg hat); have n4_ := am_ (hb); have n5_ := am_ (ho); clear BK395; clear BK396; clear BK397; clear HO415; clear HB; clear HO408; have BK395 := n0_; have BK396 := n1_; have BK397 := n2_; have HO415 := n3_; have HB := n4_; have HO418 := n5_; clear n0_ n1_ n2_ n3_ n4_ n5_; clear ho hb hg hat; have hcz112_0 : w110.cell? ⟨gb396, 0, none⟩ = some (.int .i64 a1_0) := (bc_ BK396.out 0).trans rfl; have hcz112_1 : w110.cell? ⟨gb396, 1, none⟩ = some (.int .i64 a1_1) := (bc_ BK396.out 1).trans rfl; have hcz112_2 : w110.cell? ⟨gb396, 2, none⟩ = some (.int .i64 a1_2) := (bc_ BK396.out 2).trans rfl; have hcz112_3 : w110.cell? ⟨gb396, 3, none⟩ = some (.slice A1_3 l1_3.length c1_3) := (bc_ BK396.out 3).trans rfl; have hcz112_4 : w110.cell? ⟨gb396, 4, none⟩ = some (.int .i64 a1_4) := (bc_ BK396.out 4).trans rfl; have hfz112_0 := bf_ BK396.out 0; have hfz112_1 := bf_ BK396.out 1; have hfz112_2 := bf_ BK396.out 2; have hfz112_3 := bf_ BK396.out 3; have hfz112_4 := bf_ BK396.out 4; have hcz113_0 : w110.cell? ⟨gb395, 0, none⟩ = some (.int .i64 a0_0) := (bc_ BK395.out 0).trans rfl; have hcz113_1 : w110.cell? ⟨gb395, 1, none⟩ = some (.int .i64 a0_1) := (bc_ BK395.out 1).trans rfl; have hcz113_2 : w110.cell? ⟨gb395, 2, none⟩ = some (.slice A0_2 l0_2.length c0_2) := (bc_ BK395.out 2).trans rfl; have hfz113_0 := bf_ BK395.out 0; have hfz113_1 := bf_ BK395.out 1; have hfz113_2 := bf_ BK395.out 2; obtain ⟨Ao114, co114, eo114⟩ := Kd.N_slice HO418.out; subst eo114; have hcz115_0 : w110.cell? ⟨gb397, 0, none⟩ = some (.int .i64 0) := (bc_ BK397.out 0).trans rfl; have hcz115_1 : w110.cell? ⟨gb397, 1, none⟩ = some (.int .i64 0) := (bc_ BK397.out 1).trans rfl; have hcz115_2 : w110.cell? ⟨gb397, 2, none⟩ = some (.slice none 0 0) := (bc_ BK397.out 2).trans rfl; have hfz115_0 := bf_ BK397.out 0; have hfz115_1 := bf_ BK397.out 1; have hfz115_2 := bf_ BK397.out 2))
                 repeat (go_quiet (first | (go_at_call 33; (with_reducible refine (tapearchiveref26_copied.calls kj53 _ _ l0_2 t403 _ ?side1 ?side2 A79.out).mono ?_); (case side1 => repeat (first | exact (Kd.C_below HR0_2.out HB.out) | (with_reducible refine Kd.C_alloc ?_ _) | (with_reducible refine Kd.C_drewN ?_ _) | (with_reducible refine Kd.C_drew ?_))); (case side2 => exact HC0_2.out); rintro e w102 ⟨v404, rfl, ho0, hb⟩; have n0_ := am_ (nl_ (nm_ (ok' := fun k_ => (w.heap.size ≤ k_) ∧ k_ ≠ gb395 ∧ k_ ≠ gb396 ∧ k_ ≠ gb397) (Kd.S_N (Kd.S_bound ho0)) (fun k_ hk_ => ⟨(Nat.le_trans (bz_ (pb3_ HB.out GE395.out GE396.out GE397.out)) hk_.2.1), (fb_ (g := gb395) (o := .cells #[.int .i64 a0_0, .int .i64 a0_1, .slice A0_2 l0_2.length c0_2] 24 (0, 0)) (pk_ BK395.out) k_ hk_.2.1), (fb_ (g := gb396) (o := .cells #[.int .i64 a1_0, .int .i64 a1_1, .int .i64 a1_2, .slice A1_3 l1_3.length c1_3, .int .i64 a1_4] 38 (0, 0)) (pk_ BK396.out) k_ hk_.2.1), (fb_ (g := gb397) (o := .cells #[.int .i64 0, .int .i64 0, .slice none 0 0] 24 (0, 0)) (pk_ BK397.out) k_ hk_.2.1)⟩)) (bz_ (pb3_ HB.out GE395.out GE396.out GE397.out))); have n1_ := am_ (bw_ (g := gb395) (o := .cells #[.int .i64 a0_0, .int .i64 a0_1, .slice A0_2 l0_2.length c0_2] 24 (0, 0)) (pk_ BK395.out) hb); have n2_ := am_ (bw_ (g := gb396) (o := .cells #[.int .i64 a1_0, .int .i64 a1_1, .int .i64 a1_2, .slice A1_3 l1_3.length c1_3, .int .i64 a1_4] 38 (0, 0)) (pk_ BK396.out) hb); have n3_ := am_ (bw_ (g := gb397) (o := .cells #[.int .i64 0, .int .i64 0, .slice none 0 0] 24 (0, 0)) (pk_ BK397.out) hb); have n4_ := am_ (sp_ (pb3_ HB.out GE395.out GE396.out GE397.out) hb); clear BK395; clear BK396; clear BK397; clear HB; have HO405 := n0_; have BK395 := n1_; have BK396 := n2_; have BK397 := n3_; have HB := n4_; clear n0_ n1_ n2_ n3_ n4_; (try clear hb); (try clear hb2); (try clear hk); (try clear hi); (try clear ho0); have hnb103 := NB396_397.out; have hnc103 := NB397_396.out; have hcz104_0 : w102.cell? ⟨gb396, 0, none⟩ = some (.int .i64 a1_0) := (bc_ BK396.out 0).trans rfl; have hcz104_1 : w102.cell? ⟨gb396, 1, none⟩ = some (.int .i64 a1_1) := (bc_ BK396.out 1).trans rfl; have hcz104_2 : w102.cell? ⟨gb396, 2, none⟩ = some (.int .i64 a1_2) := (bc_ BK396.out 2).trans rfl; have hcz104_3 : w102.cell? ⟨gb396, 3, none⟩ = some (.slice A1_3 l1_3.length c1_3) := (bc_ BK396.out 3).trans rfl; have hcz104_4 : w102.cell? ⟨gb396, 4, none⟩ = some (.int .i64 a1_4) := (bc_ BK396.out 4).trans rfl; have hfz104_0 := bf_ BK396.out 0; have hfz104_1 := bf_ BK396.out 1; have hfz104_2 := bf_ BK396.out 2; have hfz104_3 := bf_ BK396.out 3; have hfz104_4 := bf_ BK396.out 4; have hcz105_0 : w102.cell? ⟨gb395, 0, none⟩ = some (.int .i64 a0_0) := (bc_ BK395.out 0).trans rfl; have hcz105_1 : w102.cell? ⟨gb395, 1, none⟩ = some (.int .i64 a0_1) := (bc_ BK395.out 1).trans rfl; have hcz105_2 : w102.cell? ⟨gb395, 2, none⟩ = some (.slice A0_2 l0_2.length c0_2) := (bc_ BK395.out 2).trans rfl; have hfz105_0 := bf_ BK395.out 0; have hfz105_1 := bf_ BK395.out 1; have hfz105_2 := bf_ BK395.out 2; obtain ⟨Ao106, co106, eo106⟩ := Kd.N_slice HO405.out; subst eo106; have q107 : ((ji90) : Int) ≤ ((t403.length : Int) : Int) := ot_ (by first | (with_reducible assumption) | assumption); obtain ⟨i0107, hi0107, _, hsz107, _⟩ := info_parts info79; have hcut107 := cut_to (P := Try.prog) 22 79 .i64 Try.underlying22 hi0107 Ao106 t403.length co106 (ji90) (ot_ (by first | (with_reducible assumption) | assumption)) q107 (Kd.N_reads' HO405.out).2.1; have hr107 := Kd.N_take (m := ((ji90) : Int).toNat) HO405.out (by omega); have hy107 : y406.length = ((ji90) : Int).toNat := (by rw [Ny406.out, List.length_take]; omega); rw [← Ny406.out] at hr107; rw [← hy107] at hr107 hcut107; clear hy107 hi0107 hsz107 HO405; have HO408 := am_ hr107; clear hr107; replace q107 := eq_true q107; have q108 : (x7_53 : Int) ≤ ((l1_3.length : Int) : Int) := ot_ (by first | (with_reducible assumption) | assumption); obtain ⟨i0108, hi0108, _, hsz108, _⟩ := info_parts info79; have hroom108 : l1_3.length ≤ c1_3 := HC1_3.out; have hC108 : Kd.C k79 _ A1_3 l1_3.length l1_3 := HR1_3.out; have q0108 : (0 : Int) ≤ (x7_53 : Int) := ot_ (by first | (with_reducible assumption) | assumption); have hcut108 := cut_from (P := Try.prog) 22 79 .i64 Try.underlying22 hi0108 2 hsz108 A1_3 l1_3.length c1_3 x7_53 q0108 q108; have hr108 := Kd.C_drop (m := (x7_53 : Int).toNat) (c := c1_3) hC108 (by omega) hroom108; obtain ⟨A108, hA108⟩ : ∃ A1, A1 = (if c1_3 = (x7_53 : Int).toNat then A1_3 else (A1_3 : Option Addr).map (·.add ((x7_53 : Int).toNat * 2))) := ⟨_, rfl⟩; obtain ⟨c108, hc108⟩ : ∃ c1, c1 = c1_3 - (x7_53 : Int).toNat := ⟨_, rfl⟩; have hy108 : y409.length = l1_3.length - (x7_53 : Int).toNat := (by rw [Ny409.out, List.length_drop] <;> omega); rw [show (l1_3).drop (x7_53 : Int).toNat = y409 from Ny409.out.symm] at hr108; replace hr108 : Kd.C k79 _ A108 y409.length y409 := (by rw [hA108]; exact hr108); rw [← hy108, ← hA108, ← hc108] at hcut108; have HR412 := am_ hr108; have HC412 := am_ (show y409.length ≤ c108 from by rw [hy108, hc108]; exact Nat.sub_le_sub_right hroom108 _); clear hr108 hC108 hroom108 hi0108 hsz108 hc108; have KY108 := am_ hy108; have KA108 := am_ hA108; clear hy108 hA108; replace q108 := eq_true q108) | (go_at_call 33; (with_reducible refine (tapearchiveref26_copied.calls kj53 _ _ y409 t413 _ ?side1 ?side2 A95.out).mono ?_); (case side1 => repeat (first | exact (Kd.C_below HR412.out HB.out) | (with_reducible refine Kd.C_alloc ?_ _) | (with_reducible refine Kd.C_drewN ?_ _) | (with_reducible refine Kd.C_drew ?_))); (case side2 => exact HC412.out); rintro e w109 ⟨v414, rfl, ho0, hb⟩; have n0_ := am_ (Kd.N_elder' (pN_ HO408.out) (by first | exact Kd.N_base ho0 | exact Kd.N_base (Kd.S_N ho0)) hb); have n1_ := am_ (nl_ (nm_ (ok' := fun k_ => (w.heap.size ≤ k_) ∧ some k_ ≠ (.slice Ao106 y406.length co106 : Value).ownBlock ∧ k_ ≠ gb395 ∧ k_ ≠ gb396 ∧ k_ ≠ gb397) (Kd.S_N (Kd.S_bound ho0)) (fun k_ hk_ => ⟨(Nat.le_trans (bz_ (pb3_ HB.out GE395.out GE396.out GE397.out)) hk_.2.1), (Kd.fresh' (Kd.N_lt (pN_ HO408.out)) k_ hk_.2.1), (fb_ (g := gb395) (o := .cells #[.int .i64 a0_0, .int .i64 a0_1, .slice A0_2 l0_2.length c0_2] 24 (0, 0)) (pk_ BK395.out) k_ hk_.2.1), (fb_ (g := gb396) (o := .cells #[.int .i64 a1_0, .int .i64 a1_1, .int .i64 a1_2, .slice A1_3 l1_3.length c1_3, .int .i64 a1_4] 38 (0, 0)) (pk_ BK396.out) k_ hk_.2.1), (fb_ (g := gb397) (o := .cells #[.int .i64 0, .int .i64 0, .slice none 0 0] 24 (0, 0)) (pk_ BK397.out) k_ hk_.2.1)⟩)) (bz_ (pb3_ HB.out GE395.out GE396.out GE397.out))); have n2_ := am_ (bw_ (g := gb395) (o := .cells #[.int .i64 a0_0, .int .i64 a0_1, .slice A0_2 l0_2.length c0_2] 24 (0, 0)) (pk_ BK395.out) hb); have n3_ := am_ (bw_ (g := gb396) (o := .cells #[.int .i64 a1_0, .int .i64 a1_1, .int .i64 a1_2, .slice A1_3 l1_3.length c1_3, .int .i64 a1_4] 38 (0, 0)) (pk_ BK396.out) hb); have n4_ := am_ (bw_ (g := gb397) (o := .cells #[.int .i64 0, .int .i64 0, .slice none 0 0] 24 (0, 0)) (pk_ BK397.out) hb); have n5_ := am_ (sp_ (pb3_ HB.out GE395.out GE396.out GE397.out) hb); clear HO408; clear BK395; clear BK396; clear BK397; clear HB; have HO408 := n0_; have HO415 := n1_; have BK395 := n2_; have BK396 := n3_; have BK397 := n4_; have HB := n5_; clear n0_ n1_ n2_ n3_ n4_ n5_; (try clear hb); (try clear hb2); (try clear hk); (try clear hi); (try clear ho0); obtain ⟨Ao111, co111, eo111⟩ := Kd.N_slice HO415.out; subst eo111) | ((with_reducible refine gate_builtin (b := .append) (xs := #[.tmp 99, .tmp 104]) rfl ?_); (try (refine gate_guard (by rfl) ?_; dsimp only)); at_builtin; refine Kd.N_append_rows k79 (w0 := w) w.heap.size rfl (.tmp 99) (.tmp 104) 22 79 (.agg #[(.int .i64 0), (.slice none 0 0)]) 32 rfl Try.underlying22 info79 rfl (by decide) (by omega) (.slice Ao106 y406.length co106) y406 t413 _ _ _ (fun k_ => (w.heap.size ≤ k_) ∧ k_ ≠ gb395 ∧ k_ ≠ gb396 ∧ k_ ≠ gb397) (fun k_ => ((fun k_ => (w.heap.size ≤ k_) ∧ k_ ≠ gb395 ∧ k_ ≠ gb396 ∧ k_ ≠ gb397)) k_ ∧ some k_ ≠ (.slice Ao106 y406.length co106 : Value).ownBlock) rfl rfl ?aO ?aR (fun _ hk => hk) ?aF ?aB ?aS ?aL ?_; (case aR => exact (by skip; exact Kd.N_F (nm_ (ok' := (fun k_ => ((fun k_ => (w.heap.size ≤ k_) ∧ k_ ≠ gb395 ∧ k_ ≠ gb396 ∧ k_ ≠ gb397)) k_ ∧ some k_ ≠ (.slice Ao106 y406.length co106 : Value).ownBlock)) (HO415.out) (fun k_ hk => ⟨⟨hk.1, ⟨hk.2.2.1, ⟨hk.2.2.2.1, hk.2.2.2.2⟩⟩⟩, hk.2.1⟩)))); (case aB => exact (pb3_ HB.out GE395.out GE396.out GE397.out)); (case aF => exact (fun k_ hk => ⟨(Nat.le_trans (bz_ (pb3_ HB.out GE395.out GE396.out GE397.out)) hk), fb_ (g := gb395) (o := .cells #[.int .i64 a0_0, .int .i64 a0_1, .slice A0_2 l0_2.length c0_2] 24 (0, 0)) (pk_ BK395.out) k_ hk, fb_ (g := gb396) (o := .cells #[.int .i64 a1_0, .int .i64 a1_1, .int .i64 a1_2, .slice A1_3 l1_3.length c1_3, .int .i64 a1_4] 38 (0, 0)) (pk_ BK396.out) k_ hk, fb_ (g := gb397) (o := .cells #[.int .i64 0, .int .i64 0, .slice none 0 0] 24 (0, 0)) (pk_ BK397.out) k_ hk⟩)); (case aO => exact (by (with_reducible repeat (first | apply na_ | apply nn_ | apply nd_)); exact nm_ HO408.out (fun _ hk => ⟨hk.1.1, ⟨hk.1.2.1, ⟨hk.1.2.2.1, hk.1.2.2.2⟩⟩⟩))); (case aS => exact (bz_ (pb3_ HB.out GE395.out GE396.out GE397.out))); (case aL => have := LMc96.out; omega); intro v417 w110 ho hb hg hat; rw [← Ny416.out] at ho; have n0_ := am_ (blk_grown (g := gb395) (o := .cells #[.int .i64 a0_0, .int .i64 a0_1, .slice A0_2 l0_2.length c0_2] 24 (0, 0)) (pk_ BK395.out) hg (Kd.N_ne HO408.out BK395.out (by decide))); have n1_ := am_ (blk_grown (g := gb396) (o := .cells #[.int .i64 a1_0, .int .i64 a1_1, .int .i64 a1_2, .slice A1_3 l1_3.length c1_3, .int .i64 a1_4] 38 (0, 0)) (pk_ BK396.out) hg (Kd.N_ne HO408.out BK396.out (by decide))); have n2_ := am_ (blk_grown (g := gb397) (o := .cells #[.int .i64 0, .int .i64 0, .slice none 0 0] 24 (0, 0)) (pk_ BK397.out) hg (Kd.N_ne HO408.out BK397.out (by decide))); have n3_ := am_ (Kd.N_afterv (ok := (fun k_ => (w.heap.size ≤ k_) ∧ k_ ≠ gb395 ∧ k_ ≠ gb396 ∧ k_ ≠ gb397)) (by (with_reducible repeat (first | apply na_ | apply nn_ | apply nd_)); exact nm_ HO415.out (fun _ hk => ⟨⟨hk.1, ⟨hk.2.2.1, ⟨hk.2.2.2.1, hk.2.2.2.2⟩⟩⟩, hk.2.1⟩)) hg hat); have n4_ := am_ (hb); have n5_ := am_ (ho); clear BK395; clear BK396; clear BK397; clear HO415; clear HB; clear HO408; have BK395 := n0_; have BK396 := n1_; have BK397 := n2_; have HO415 := n3_; have HB := n4_; have HO418 := n5_; clear n0_ n1_ n2_ n3_ n4_ n5_; clear ho hb hg hat; have hcz112_0 : w110.cell? ⟨gb396, 0, none⟩ = some (.int .i64 a1_0) := (bc_ BK396.out 0).trans rfl; have hcz112_1 : w110.cell? ⟨gb396, 1, none⟩ = some (.int .i64 a1_1) := (bc_ BK396.out 1).trans rfl; have hcz112_2 : w110.cell? ⟨gb396, 2, none⟩ = some (.int .i64 a1_2) := (bc_ BK396.out 2).trans rfl; have hcz112_3 : w110.cell? ⟨gb396, 3, none⟩ = some (.slice A1_3 l1_3.length c1_3) := (bc_ BK396.out 3).trans rfl; have hcz112_4 : w110.cell? ⟨gb396, 4, none⟩ = some (.int .i64 a1_4) := (bc_ BK396.out 4).trans rfl; have hfz112_0 := bf_ BK396.out 0; have hfz112_1 := bf_ BK396.out 1; have hfz112_2 := bf_ BK396.out 2; have hfz112_3 := bf_ BK396.out 3; have hfz112_4 := bf_ BK396.out 4; have hcz113_0 : w110.cell? ⟨gb395, 0, none⟩ = some (.int .i64 a0_0) := (bc_ BK395.out 0).trans rfl; have hcz113_1 : w110.cell? ⟨gb395, 1, none⟩ = some (.int .i64 a0_1) := (bc_ BK395.out 1).trans rfl; have hcz113_2 : w110.cell? ⟨gb395, 2, none⟩ = some (.slice A0_2 l0_2.length c0_2) := (bc_ BK395.out 2).trans rfl; have hfz113_0 := bf_ BK395.out 0; have hfz113_1 := bf_ BK395.out 1; have hfz113_2 := bf_ BK395.out 2; obtain ⟨Ao114, co114, eo114⟩ := Kd.N_slice HO418.out; subst eo114; have hcz115_0 : w110.cell? ⟨gb397, 0, none⟩ = some (.int .i64 0) := (bc_ BK397.out 0).trans rfl; have hcz115_1 : w110.cell? ⟨gb397, 1, none⟩ = some (.int .i64 0) := (bc_ BK397.out 1).trans rfl; have hcz115_2 : w110.cell? ⟨gb397, 2, none⟩ = some (.slice none 0 0) := (bc_ BK397.out 2).trans rfl; have hfz115_0 := bf_ BK397.out 0; have hfz115_1 := bf_ BK397.out 1; have hfz115_2 := bf_ BK397.out 2)); try go_wp2_with (first | (go_at_call 33; (with_reducible refine (tapearchiveref26_copied.calls kj53 _ _ l0_2 t403 _ ?side1 ?side2 A79.out).mono ?_); (case side1 => repeat (first | exact (Kd.C_below HR0_2.out HB.out) | (with_reducible refine Kd.C_alloc ?_ _) | (with_reducible refine Kd.C_drewN ?_ _) | (with_reducible refine Kd.C_drew ?_))); (case side2 => exact HC0_2.out); rintro e w102 ⟨v404, rfl, ho0, hb⟩; have n0_ := am_ (nl_ (nm_ (ok' := fun k_ => (w.heap.size ≤ k_) ∧ k_ ≠ gb395 ∧ k_ ≠ gb396 ∧ k_ ≠ gb397) (Kd.S_N (Kd.S_bound ho0)) (fun k_ hk_ => ⟨(Nat.le_trans (bz_ (pb3_ HB.out GE395.out GE396.out GE397.out)) hk_.2.1), (fb_ (g := gb395) (o := .cells #[.int .i64 a0_0, .int .i64 a0_1, .slice A0_2 l0_2.length c0_2] 24 (0, 0)) (pk_ BK395.out) k_ hk_.2.1), (fb_ (g := gb396) (o := .cells #[.int .i64 a1_0, .int .i64 a1_1, .int .i64 a1_2, .slice A1_3 l1_3.length c1_3, .int .i64 a1_4] 38 (0, 0)) (pk_ BK396.out) k_ hk_.2.1), (fb_ (g := gb397) (o := .cells #[.int .i64 0, .int .i64 0, .slice none 0 0] 24 (0, 0)) (pk_ BK397.out) k_ hk_.2.1)⟩)) (bz_ (pb3_ HB.out GE395.out GE396.out GE397.out))); have n1_ := am_ (bw_ (g := gb395) (o := .cells #[.int .i64 a0_0, .int .i64 a0_1, .slice A0_2 l0_2.length c0_2] 24 (0, 0)) (pk_ BK395.out) hb); have n2_ := am_ (bw_ (g := gb396) (o := .cells #[.int .i64 a1_0, .int .i64 a1_1, .int .i64 a1_2, .slice A1_3 l1_3.length c1_3, .int .i64 a1_4] 38 (0, 0)) (pk_ BK396.out) hb); have n3_ := am_ (bw_ (g := gb397) (o := .cells #[.int .i64 0, .int .i64 0, .slice none 0 0] 24 (0, 0)) (pk_ BK397.out) hb); have n4_ := am_ (sp_ (pb3_ HB.out GE395.out GE396.out GE397.out) hb); clear BK395; clear BK396; clear BK397; clear HB; have HO405 := n0_; have BK395 := n1_; have BK396 := n2_; have BK397 := n3_; have HB := n4_; clear n0_ n1_ n2_ n3_ n4_; (try clear hb); (try clear hb2); (try clear hk); (try clear hi); (try clear ho0); have hnb103 := NB396_397.out; have hnc103 := NB397_396.out; have hcz104_0 : w102.cell? ⟨gb396, 0, none⟩ = some (.int .i64 a1_0) := (bc_ BK396.out 0).trans rfl; have hcz104_1 : w102.cell? ⟨gb396, 1, none⟩ = some (.int .i64 a1_1) := (bc_ BK396.out 1).trans rfl; have hcz104_2 : w102.cell? ⟨gb396, 2, none⟩ = some (.int .i64 a1_2) := (bc_ BK396.out 2).trans rfl; have hcz104_3 : w102.cell? ⟨gb396, 3, none⟩ = some (.slice A1_3 l1_3.length c1_3) := (bc_ BK396.out 3).trans rfl; have hcz104_4 : w102.cell? ⟨gb396, 4, none⟩ = some (.int .i64 a1_4) := (bc_ BK396.out 4).trans rfl; have hfz104_0 := bf_ BK396.out 0; have hfz104_1 := bf_ BK396.out 1; have hfz104_2 := bf_ BK396.out 2; have hfz104_3 := bf_ BK396.out 3; have hfz104_4 := bf_ BK396.out 4; have hcz105_0 : w102.cell? ⟨gb395, 0, none⟩ = some (.int .i64 a0_0) := (bc_ BK395.out 0).trans rfl; have hcz105_1 : w102.cell? ⟨gb395, 1, none⟩ = some (.int .i64 a0_1) := (bc_ BK395.out 1).trans rfl; have hcz105_2 : w102.cell? ⟨gb395, 2, none⟩ = some (.slice A0_2 l0_2.length c0_2) := (bc_ BK395.out 2).trans rfl; have hfz105_0 := bf_ BK395.out 0; have hfz105_1 := bf_ BK395.out 1; have hfz105_2 := bf_ BK395.out 2; obtain ⟨Ao106, co106, eo106⟩ := Kd.N_slice HO405.out; subst eo106; have q107 : ((ji90) : Int) ≤ ((t403.length : Int) : Int) := ot_ (by first | (with_reducible assumption) | assumption); obtain ⟨i0107, hi0107, _, hsz107, _⟩ := info_parts info79; have hcut107 := cut_to (P := Try.prog) 22 79 .i64 Try.underlying22 hi0107 Ao106 t403.length co106 (ji90) (ot_ (by first | (with_reducible assumption) | assumption)) q107 (Kd.N_reads' HO405.out).2.1; have hr107 := Kd.N_take (m := ((ji90) : Int).toNat) HO405.out (by omega); have hy107 : y406.length = ((ji90) : Int).toNat := (by rw [Ny406.out, List.length_take]; omega); rw [← Ny406.out] at hr107; rw [← hy107] at hr107 hcut107; clear hy107 hi0107 hsz107 HO405; have HO408 := am_ hr107; clear hr107; replace q107 := eq_true q107; have q108 : (x7_53 : Int) ≤ ((l1_3.length : Int) : Int) := ot_ (by first | (with_reducible assumption) | assumption); obtain ⟨i0108, hi0108, _, hsz108, _⟩ := info_parts info79; have hroom108 : l1_3.length ≤ c1_3 := HC1_3.out; have hC108 : Kd.C k79 _ A1_3 l1_3.length l1_3 := HR1_3.out; have q0108 : (0 : Int) ≤ (x7_53 : Int) := ot_ (by first | (with_reducible assumption) | assumption); have hcut108 := cut_from (P := Try.prog) 22 79 .i64 Try.underlying22 hi0108 2 hsz108 A1_3 l1_3.length c1_3 x7_53 q0108 q108; have hr108 := Kd.C_drop (m := (x7_53 : Int).toNat) (c := c1_3) hC108 (by omega) hroom108; obtain ⟨A108, hA108⟩ : ∃ A1, A1 = (if c1_3 = (x7_53 : Int).toNat then A1_3 else (A1_3 : Option Addr).map (·.add ((x7_53 : Int).toNat * 2))) := ⟨_, rfl⟩; obtain ⟨c108, hc108⟩ : ∃ c1, c1 = c1_3 - (x7_53 : Int).toNat := ⟨_, rfl⟩; have hy108 : y409.length = l1_3.length - (x7_53 : Int).toNat := (by rw [Ny409.out, List.length_drop] <;> omega); rw [show (l1_3).drop (x7_53 : Int).toNat = y409 from Ny409.out.symm] at hr108; replace hr108 : Kd.C k79 _ A108 y409.length y409 := (by rw [hA108]; exact hr108); rw [← hy108, ← hA108, ← hc108] at hcut108; have HR412 := am_ hr108; have HC412 := am_ (show y409.length ≤ c108 from by rw [hy108, hc108]; exact Nat.sub_le_sub_right hroom108 _); clear hr108 hC108 hroom108 hi0108 hsz108 hc108; have KY108 := am_ hy108; have KA108 := am_ hA108; clear hy108 hA108; replace q108 := eq_true q108) | (go_at_call 33; (with_reducible refine (tapearchiveref26_copied.calls kj53 _ _ y409 t413 _ ?side1 ?side2 A95.out).mono ?_); (case side1 => repeat (first | exact (Kd.C_below HR412.out HB.out) | (with_reducible refine Kd.C_alloc ?_ _) | (with_reducible refine Kd.C_drewN ?_ _) | (with_reducible refine Kd.C_drew ?_))); (case side2 => exact HC412.out); rintro e w109 ⟨v414, rfl, ho0, hb⟩; have n0_ := am_ (Kd.N_elder' (pN_ HO408.out) (by first | exact Kd.N_base ho0 | exact Kd.N_base (Kd.S_N ho0)) hb); have n1_ := am_ (nl_ (nm_ (ok' := fun k_ => (w.heap.size ≤ k_) ∧ some k_ ≠ (.slice Ao106 y406.length co106 : Value).ownBlock ∧ k_ ≠ gb395 ∧ k_ ≠ gb396 ∧ k_ ≠ gb397) (Kd.S_N (Kd.S_bound ho0)) (fun k_ hk_ => ⟨(Nat.le_trans (bz_ (pb3_ HB.out GE395.out GE396.out GE397.out)) hk_.2.1), (Kd.fresh' (Kd.N_lt (pN_ HO408.out)) k_ hk_.2.1), (fb_ (g := gb395) (o := .cells #[.int .i64 a0_0, .int .i64 a0_1, .slice A0_2 l0_2.length c0_2] 24 (0, 0)) (pk_ BK395.out) k_ hk_.2.1), (fb_ (g := gb396) (o := .cells #[.int .i64 a1_0, .int .i64 a1_1, .int .i64 a1_2, .slice A1_3 l1_3.length c1_3, .int .i64 a1_4] 38 (0, 0)) (pk_ BK396.out) k_ hk_.2.1), (fb_ (g := gb397) (o := .cells #[.int .i64 0, .int .i64 0, .slice none 0 0] 24 (0, 0)) (pk_ BK397.out) k_ hk_.2.1)⟩)) (bz_ (pb3_ HB.out GE395.out GE396.out GE397.out))); have n2_ := am_ (bw_ (g := gb395) (o := .cells #[.int .i64 a0_0, .int .i64 a0_1, .slice A0_2 l0_2.length c0_2] 24 (0, 0)) (pk_ BK395.out) hb); have n3_ := am_ (bw_ (g := gb396) (o := .cells #[.int .i64 a1_0, .int .i64 a1_1, .int .i64 a1_2, .slice A1_3 l1_3.length c1_3, .int .i64 a1_4] 38 (0, 0)) (pk_ BK396.out) hb); have n4_ := am_ (bw_ (g := gb397) (o := .cells #[.int .i64 0, .int .i64 0, .slice none 0 0] 24 (0, 0)) (pk_ BK397.out) hb); have n5_ := am_ (sp_ (pb3_ HB.out GE395.out GE396.out GE397.out) hb); clear HO408; clear BK395; clear BK396; clear BK397; clear HB; have HO408 := n0_; have HO415 := n1_; have BK395 := n2_; have BK396 := n3_; have BK397 := n4_; have HB := n5_; clear n0_ n1_ n2_ n3_ n4_ n5_; (try clear hb); (try clear hb2); (try clear hk); (try clear hi); (try clear ho0); obtain ⟨Ao111, co111, eo111⟩ := Kd.N_slice HO415.out; subst eo111) | ((with_reducible refine gate_builtin (b := .append) (xs := #[.tmp 99, .tmp 104]) rfl ?_); (try (refine gate_guard (by rfl) ?_; dsimp only)); at_builtin; refine Kd.N_append_rows k79 (w0 := w) w.heap.size rfl (.tmp 99) (.tmp 104) 22 79 (.agg #[(.int .i64 0), (.slice none 0 0)]) 32 rfl Try.underlying22 info79 rfl (by decide) (by omega) (.slice Ao106 y406.length co106) y406 t413 _ _ _ (fun k_ => (w.heap.size ≤ k_) ∧ k_ ≠ gb395 ∧ k_ ≠ gb396 ∧ k_ ≠ gb397) (fun k_ => ((fun k_ => (w.heap.size ≤ k_) ∧ k_ ≠ gb395 ∧ k_ ≠ gb396 ∧ k_ ≠ gb397)) k_ ∧ some k_ ≠ (.slice Ao106 y406.length co106 : Value).ownBlock) rfl rfl ?aO ?aR (fun _ hk => hk) ?aF ?aB ?aS ?aL ?_; (case aR => exact (by skip; exact Kd.N_F (nm_ (ok' := (fun k_ => ((fun k_ => (w.heap.size ≤ k_) ∧ k_ ≠ gb395 ∧ k_ ≠ gb396 ∧ k_ ≠ gb397)) k_ ∧ some k_ ≠ (.slice Ao106 y406.length co106 : Value).ownBlock)) (HO415.out) (fun k_ hk => ⟨⟨hk.1, ⟨hk.2.2.1, ⟨hk.2.2.2.1, hk.2.2.2.2⟩⟩⟩, hk.2.1⟩)))); (case aB => exact (pb3_ HB.out GE395.out GE396.out GE397.out)); (case aF => exact (fun k_ hk => ⟨(Nat.le_trans (bz_ (pb3_ HB.out GE395.out GE396.out GE397.out)) hk), fb_ (g := gb395) (o := .cells #[.int .i64 a0_0, .int .i64 a0_1, .slice A0_2 l0_2.length c0_2] 24 (0, 0)) (pk_ BK395.out) k_ hk, fb_ (g := gb396) (o := .cells #[.int .i64 a1_0, .int .i64 a1_1, .int .i64 a1_2, .slice A1_3 l1_3.length c1_3, .int .i64 a1_4] 38 (0, 0)) (pk_ BK396.out) k_ hk, fb_ (g := gb397) (o := .cells #[.int .i64 0, .int .i64 0, .slice none 0 0] 24 (0, 0)) (pk_ BK397.out) k_ hk⟩)); (case aO => exact (by (with_reducible repeat (first | apply na_ | apply nn_ | apply nd_)); exact nm_ HO408.out (fun _ hk => ⟨hk.1.1, ⟨hk.1.2.1, ⟨hk.1.2.2.1, hk.1.2.2.2⟩⟩⟩))); (case aS => exact (bz_ (pb3_ HB.out GE395.out GE396.out GE397.out))); (case aL => have := LMc96.out; omega); intro v417 w110 ho hb hg hat; rw [← Ny416.out] at ho; have n0_ := am_ (blk_grown (g := gb395) (o := .cells #[.int .i64 a0_0, .int .i64 a0_1, .slice A0_2 l0_2.length c0_2] 24 (0, 0)) (pk_ BK395.out) hg (Kd.N_ne HO408.out BK395.out (by decide))); have n1_ := am_ (blk_grown (g := gb396) (o := .cells #[.int .i64 a1_0, .int .i64 a1_1, .int .i64 a1_2, .slice A1_3 l1_3.length c1_3, .int .i64 a1_4] 38 (0, 0)) (pk_ BK396.out) hg (Kd.N_ne HO408.out BK396.out (by decide))); have n2_ := am_ (blk_grown (g := gb397) (o := .cells #[.int .i64 0, .int .i64 0, .slice none 0 0] 24 (0, 0)) (pk_ BK397.out) hg (Kd.N_ne HO408.out BK397.out (by decide))); have n3_ := am_ (Kd.N_afterv (ok := (fun k_ => (w.heap.size ≤ k_) ∧ k_ ≠ gb395 ∧ k_ ≠ gb396 ∧ k_ ≠ gb397)) (by (with_reducible repeat (first | apply na_ | apply nn_ | apply nd_)); exact nm_ HO415.out (fun _ hk => ⟨⟨hk.1, ⟨hk.2.2.1, ⟨hk.2.2.2.1, hk.2.2.2.2⟩⟩⟩, hk.2.1⟩)) hg hat); have n4_ := am_ (hb); have n5_ := am_ (ho); clear BK395; clear BK396; clear BK397; clear HO415; clear HB; clear HO408; have BK395 := n0_; have BK396 := n1_; have BK397 := n2_; have HO415 := n3_; have HB := n4_; have HO418 := n5_; clear n0_ n1_ n2_ n3_ n4_ n5_; clear ho hb hg hat; have hcz112_0 : w110.cell? ⟨gb396, 0, none⟩ = some (.int .i64 a1_0) := (bc_ BK396.out 0).trans rfl; have hcz112_1 : w110.cell? ⟨gb396, 1, none⟩ = some (.int .i64 a1_1) := (bc_ BK396.out 1).trans rfl; have hcz112_2 : w110.cell? ⟨gb396, 2, none⟩ = some (.int .i64 a1_2) := (bc_ BK396.out 2).trans rfl; have hcz112_3 : w110.cell? ⟨gb396, 3, none⟩ = some (.slice A1_3 l1_3.length c1_3) := (bc_ BK396.out 3).trans rfl; have hcz112_4 : w110.cell? ⟨gb396, 4, none⟩ = some (.int .i64 a1_4) := (bc_ BK396.out 4).trans rfl; have hfz112_0 := bf_ BK396.out 0; have hfz112_1 := bf_ BK396.out 1; have hfz112_2 := bf_ BK396.out 2; have hfz112_3 := bf_ BK396.out 3; have hfz112_4 := bf_ BK396.out 4; have hcz113_0 : w110.cell? ⟨gb395, 0, none⟩ = some (.int .i64 a0_0) := (bc_ BK395.out 0).trans rfl; have hcz113_1 : w110.cell? ⟨gb395, 1, none⟩ = some (.int .i64 a0_1) := (bc_ BK395.out 1).trans rfl; have hcz113_2 : w110.cell? ⟨gb395, 2, none⟩ = some (.slice A0_2 l0_2.length c0_2) := (bc_ BK395.out 2).trans rfl; have hfz113_0 := bf_ BK395.out 0; have hfz113_1 := bf_ BK395.out 1; have hfz113_2 := bf_ BK395.out 2; obtain ⟨Ao114, co114, eo114⟩ := Kd.N_slice HO418.out; subst eo114; have hcz115_0 : w110.cell? ⟨gb397, 0, none⟩ = some (.int .i64 0) := (bc_ BK397.out 0).trans rfl; have hcz115_1 : w110.cell? ⟨gb397, 1, none⟩ = some (.int .i64 0) := (bc_ BK397.out 1).trans rfl; have hcz115_2 : w110.cell? ⟨gb397, 2, none⟩ = some (.slice none 0 0) := (bc_ BK397.out 2).trans rfl; have hfz115_0 := bf_ BK397.out 0; have hfz115_1 := bf_ BK397.out 1; have hfz115_2 := bf_ BK397.out 2)))
                 refine bodyPost_ret (results_ctt rfl _ _ gb397 24 #[.int .i64 a1_0, .int .i64 ji98, .slice Ao114 y416.length co114] (0, 0) _ rfl (by (with_reducible repeat (first | refine bn_ ?_ _ | refine bd_ ?_ | refine ba_ ?_ _)); refine blk_put (cs := #[.int .i64 a1_0, .int .i64 ji98, .slice none 0 0]) ?_ 2 _ rfl; (with_reducible repeat (first | refine bn_ ?_ _ | refine bd_ ?_ | refine ba_ ?_ _)); refine blk_put (cs := #[.int .i64 a1_0, .int .i64 0, .slice none 0 0]) ?_ 1 _ rfl; (with_reducible repeat (first | refine bn_ ?_ _ | refine bd_ ?_ | refine ba_ ?_ _)); refine blk_put (cs := #[.int .i64 0, .int .i64 0, .slice none 0 0]) ?_ 0 _ rfl; (with_reducible repeat (first | refine bn_ ?_ _ | refine bd_ ?_ | refine ba_ ?_ _)); exact BK397.out) Try.underlying24 rfl (by kernel_rfl)) rfl ?_; exact ⟨_, by first | rfl | (simp [errW_none, errW_some] <;> rfl) | (simp only [← hji90, ← hji97, ← hji98]; first | rfl | (simp [errW_none, errW_some] <;> rfl)) | (simp [*, errW_none, errW_some] <;> rfl), by (with_reducible repeat (first | apply na_ | apply nn_ | apply nd_)); exact nm_ (nf_ (p := ⟨gb397, 2, none⟩) (nf_ (p := ⟨gb397, 1, none⟩) (nf_ (p := ⟨gb397, 0, none⟩) (nm_ HO418.out (fun k_ hk => (⟨hk, hk.2.2.2⟩ : _ ∧ k_ ≠ gb397))) (fun _ hk => hk.2) (.int .i64 a1_0)) (fun _ hk => hk.2) (.int .i64 ji98)) (fun _ hk => hk.2) (.slice Ao114 y416.length co114)) (fun _ hk => hk.1.1), pb3_ HB.out GE395.out GE396.out GE397.out⟩
                ·
                 rw [if_neg c96] at H; exact absurd H (by simp)
               ·
                rw [if_neg c94] at H; exact absurd H (by simp)
              ·
               rw [if_neg c93] at H; exact absurd H (by simp)
             ·
              rw [if_neg c92] at H; exact absurd H (by simp)
            ·
             rw [if_neg c91] at H; exact absurd H (by simp)
          ·
           rw [if_neg c80] at H; have c80b0 : decide (x7_53 < (l1_3.length : Int)) = false := df_ c80; clear c80; obtain ⟨ji116, hji116⟩ : ∃ j_ : Int, (mn a1_4 (wrap64 (a1_1 + (l1_3.length : Int)))) = j_ := ⟨_, rfl⟩; replace H : (some (a1_0, mx a0_1 (ji116), t403, wrap64 (a1_1 + (l1_3.length : Int)), 0)) = some (r1, r2, r3, r4, r5) := by first | (rw [hji116] at H; exact H) | (simp only [hji116] at H ⊢; exact H)
           (try rw [hji116] at A79)
           have hji116_ : (if (wrap64 (a1_1 + (l1_3.length : Int))) < a1_4 then (wrap64 (a1_1 + (l1_3.length : Int))) else a1_4) = ji116 := hji116; obtain ⟨ji117, hji117⟩ : ∃ j_ : Int, (mx a0_1 (ji116)) = j_ := ⟨_, rfl⟩; replace H : (some (a1_0, ji117, t403, wrap64 (a1_1 + (l1_3.length : Int)), 0)) = some (r1, r2, r3, r4, r5) := by first | (rw [hji117] at H; exact H) | (simp only [hji117] at H ⊢; exact H)
           (try rw [hji117] at A79)
           have hji117_ : (if a0_1 < (ji116) then (ji116) else a0_1) = ji117 := hji117; simp only [Option.some.injEq, Prod.mk.injEq] at H; obtain ⟨rfl, rfl, rfl, rfl, rfl⟩ := H; have hnb118 := NB395_396.out; have hnc118 := NB396_395.out; have hnb119 := NB395_397.out; have hnc119 := NB397_395.out; have hcz120_0 : wc.cell? ⟨gb395, 0, none⟩ = some (.int .i64 a0_0) := (bc_ BK395.out 0).trans rfl; have hcz120_1 : wc.cell? ⟨gb395, 1, none⟩ = some (.int .i64 a0_1) := (bc_ BK395.out 1).trans rfl; have hcz120_2 : wc.cell? ⟨gb395, 2, none⟩ = some (.slice A0_2 l0_2.length c0_2) := (bc_ BK395.out 2).trans rfl; have hfz120_0 := bf_ BK395.out 0; have hfz120_1 := bf_ BK395.out 1; have hfz120_2 := bf_ BK395.out 2
           go_wp2_with (first | (go_at_call 33; (with_reducible refine (tapearchiveref26_copied.calls kj53 _ _ l0_2 t403 _ ?side1 ?side2 A79.out).mono ?_); (case side1 => repeat (first | exact (Kd.C_below HR0_2.out HB.out) | (with_reducible refine Kd.C_alloc ?_ _) | (with_reducible refine Kd.C_drewN ?_ _) | (with_reducible refine Kd.C_drew ?_))); (case side2 => exact HC0_2.out); rintro e w121 ⟨v404, rfl, ho0, hb⟩; have n0_ := am_ (nl_ (nm_ (ok' := fun k_ => (w.heap.size ≤ k_) ∧ k_ ≠ gb395 ∧ k_ ≠ gb396 ∧ k_ ≠ gb397) (Kd.S_N (Kd.S_bound ho0)) (fun k_ hk_ => ⟨(Nat.le_trans (bz_ (pb3_ HB.out GE395.out GE396.out GE397.out)) hk_.2.1), (fb_ (g := gb395) (o := .cells #[.int .i64 a0_0, .int .i64 a0_1, .slice A0_2 l0_2.length c0_2] 24 (0, 0)) (pk_ BK395.out) k_ hk_.2.1), (fb_ (g := gb396) (o := .cells #[.int .i64 a1_0, .int .i64 a1_1, .int .i64 a1_2, .slice A1_3 l1_3.length c1_3, .int .i64 a1_4] 38 (0, 0)) (pk_ BK396.out) k_ hk_.2.1), (fb_ (g := gb397) (o := .cells #[.int .i64 0, .int .i64 0, .slice none 0 0] 24 (0, 0)) (pk_ BK397.out) k_ hk_.2.1)⟩)) (bz_ (pb3_ HB.out GE395.out GE396.out GE397.out))); have n1_ := am_ (bw_ (g := gb395) (o := .cells #[.int .i64 a0_0, .int .i64 a0_1, .slice A0_2 l0_2.length c0_2] 24 (0, 0)) (pk_ BK395.out) hb); have n2_ := am_ (bw_ (g := gb396) (o := .cells #[.int .i64 a1_0, .int .i64 a1_1, .int .i64 a1_2, .slice A1_3 l1_3.length c1_3, .int .i64 a1_4] 38 (0, 0)) (pk_ BK396.out) hb); have n3_ := am_ (bw_ (g := gb397) (o := .cells #[.int .i64 0, .int .i64 0, .slice none 0 0] 24 (0, 0)) (pk_ BK397.out) hb); have n4_ := am_ (sp_ (pb3_ HB.out GE395.out GE396.out GE397.out) hb); clear BK395; clear BK396; clear BK397; clear HB; have HO405 := n0_; have BK395 := n1_; have BK396 := n2_; have BK397 := n3_; have HB := n4_; clear n0_ n1_ n2_ n3_ n4_; (try clear hb); (try clear hb2); (try clear hk); (try clear hi); (try clear ho0); have hnb122 := NB396_397.out; have hnc122 := NB397_396.out; have hcz123_0 : w121.cell? ⟨gb396, 0, none⟩ = some (.int .i64 a1_0) := (bc_ BK396.out 0).trans rfl; have hcz123_1 : w121.cell? ⟨gb396, 1, none⟩ = some (.int .i64 a1_1) := (bc_ BK396.out 1).trans rfl; have hcz123_2 : w121.cell? ⟨gb396, 2, none⟩ = some (.int .i64 a1_2) := (bc_ BK396.out 2).trans rfl; have hcz123_3 : w121.cell? ⟨gb396, 3, none⟩ = some (.slice A1_3 l1_3.length c1_3) := (bc_ BK396.out 3).trans rfl; have hcz123_4 : w121.cell? ⟨gb396, 4, none⟩ = some (.int .i64 a1_4) := (bc_ BK396.out 4).trans rfl; have hfz123_0 := bf_ BK396.out 0; have hfz123_1 := bf_ BK396.out 1; have hfz123_2 := bf_ BK396.out 2; have hfz123_3 := bf_ BK396.out 3; have hfz123_4 := bf_ BK396.out 4; have hcz124_0 : w121.cell? ⟨gb395, 0, none⟩ = some (.int .i64 a0_0) := (bc_ BK395.out 0).trans rfl; have hcz124_1 : w121.cell? ⟨gb395, 1, none⟩ = some (.int .i64 a0_1) := (bc_ BK395.out 1).trans rfl; have hcz124_2 : w121.cell? ⟨gb395, 2, none⟩ = some (.slice A0_2 l0_2.length c0_2) := (bc_ BK395.out 2).trans rfl; have hfz124_0 := bf_ BK395.out 0; have hfz124_1 := bf_ BK395.out 1; have hfz124_2 := bf_ BK395.out 2; obtain ⟨Ao125, co125, eo125⟩ := Kd.N_slice HO405.out; subst eo125; have hcz126_0 : w121.cell? ⟨gb397, 0, none⟩ = some (.int .i64 0) := (bc_ BK397.out 0).trans rfl; have hcz126_1 : w121.cell? ⟨gb397, 1, none⟩ = some (.int .i64 0) := (bc_ BK397.out 1).trans rfl; have hcz126_2 : w121.cell? ⟨gb397, 2, none⟩ = some (.slice none 0 0) := (bc_ BK397.out 2).trans rfl; have hfz126_0 := bf_ BK397.out 0; have hfz126_1 := bf_ BK397.out 1; have hfz126_2 := bf_ BK397.out 2))
           repeat (go_quiet (first | (go_at_call 33; (with_reducible refine (tapearchiveref26_copied.calls kj53 _ _ l0_2 t403 _ ?side1 ?side2 A79.out).mono ?_); (case side1 => repeat (first | exact (Kd.C_below HR0_2.out HB.out) | (with_reducible refine Kd.C_alloc ?_ _) | (with_reducible refine Kd.C_drewN ?_ _) | (with_reducible refine Kd.C_drew ?_))); (case side2 => exact HC0_2.out); rintro e w121 ⟨v404, rfl, ho0, hb⟩; have n0_ := am_ (nl_ (nm_ (ok' := fun k_ => (w.heap.size ≤ k_) ∧ k_ ≠ gb395 ∧ k_ ≠ gb396 ∧ k_ ≠ gb397) (Kd.S_N (Kd.S_bound ho0)) (fun k_ hk_ => ⟨(Nat.le_trans (bz_ (pb3_ HB.out GE395.out GE396.out GE397.out)) hk_.2.1), (fb_ (g := gb395) (o := .cells #[.int .i64 a0_0, .int .i64 a0_1, .slice A0_2 l0_2.length c0_2] 24 (0, 0)) (pk_ BK395.out) k_ hk_.2.1), (fb_ (g := gb396) (o := .cells #[.int .i64 a1_0, .int .i64 a1_1, .int .i64 a1_2, .slice A1_3 l1_3.length c1_3, .int .i64 a1_4] 38 (0, 0)) (pk_ BK396.out) k_ hk_.2.1), (fb_ (g := gb397) (o := .cells #[.int .i64 0, .int .i64 0, .slice none 0 0] 24 (0, 0)) (pk_ BK397.out) k_ hk_.2.1)⟩)) (bz_ (pb3_ HB.out GE395.out GE396.out GE397.out))); have n1_ := am_ (bw_ (g := gb395) (o := .cells #[.int .i64 a0_0, .int .i64 a0_1, .slice A0_2 l0_2.length c0_2] 24 (0, 0)) (pk_ BK395.out) hb); have n2_ := am_ (bw_ (g := gb396) (o := .cells #[.int .i64 a1_0, .int .i64 a1_1, .int .i64 a1_2, .slice A1_3 l1_3.length c1_3, .int .i64 a1_4] 38 (0, 0)) (pk_ BK396.out) hb); have n3_ := am_ (bw_ (g := gb397) (o := .cells #[.int .i64 0, .int .i64 0, .slice none 0 0] 24 (0, 0)) (pk_ BK397.out) hb); have n4_ := am_ (sp_ (pb3_ HB.out GE395.out GE396.out GE397.out) hb); clear BK395; clear BK396; clear BK397; clear HB; have HO405 := n0_; have BK395 := n1_; have BK396 := n2_; have BK397 := n3_; have HB := n4_; clear n0_ n1_ n2_ n3_ n4_; (try clear hb); (try clear hb2); (try clear hk); (try clear hi); (try clear ho0); have hnb122 := NB396_397.out; have hnc122 := NB397_396.out; have hcz123_0 : w121.cell? ⟨gb396, 0, none⟩ = some (.int .i64 a1_0) := (bc_ BK396.out 0).trans rfl; have hcz123_1 : w121.cell? ⟨gb396, 1, none⟩ = some (.int .i64 a1_1) := (bc_ BK396.out 1).trans rfl; have hcz123_2 : w121.cell? ⟨gb396, 2, none⟩ = some (.int .i64 a1_2) := (bc_ BK396.out 2).trans rfl; have hcz123_3 : w121.cell? ⟨gb396, 3, none⟩ = some (.slice A1_3 l1_3.length c1_3) := (bc_ BK396.out 3).trans rfl; have hcz123_4 : w121.cell? ⟨gb396, 4, none⟩ = some (.int .i64 a1_4) := (bc_ BK396.out 4).trans rfl; have hfz123_0 := bf_ BK396.out 0; have hfz123_1 := bf_ BK396.out 1; have hfz123_2 := bf_ BK396.out 2; have hfz123_3 := bf_ BK396.out 3; have hfz123_4 := bf_ BK396.out 4; have hcz124_0 : w121.cell? ⟨gb395, 0, none⟩ = some (.int .i64 a0_0) := (bc_ BK395.out 0).trans rfl; have hcz124_1 : w121.cell? ⟨gb395, 1, none⟩ = some (.int .i64 a0_1) := (bc_ BK395.out 1).trans rfl; have hcz124_2 : w121.cell? ⟨gb395, 2, none⟩ = some (.slice A0_2 l0_2.length c0_2) := (bc_ BK395.out 2).trans rfl; have hfz124_0 := bf_ BK395.out 0; have hfz124_1 := bf_ BK395.out 1; have hfz124_2 := bf_ BK395.out 2; obtain ⟨Ao125, co125, eo125⟩ := Kd.N_slice HO405.out; subst eo125; have hcz126_0 : w121.cell? ⟨gb397, 0, none⟩ = some (.int .i64 0) := (bc_ BK397.out 0).trans rfl; have hcz126_1 : w121.cell? ⟨gb397, 1, none⟩ = some (.int .i64 0) := (bc_ BK397.out 1).trans rfl; have hcz126_2 : w121.cell? ⟨gb397, 2, none⟩ = some (.slice none 0 0) := (bc_ BK397.out 2).trans rfl; have hfz126_0 := bf_ BK397.out 0; have hfz126_1 := bf_ BK397.out 1; have hfz126_2 := bf_ BK397.out 2)); try go_wp2_with (first | (go_at_call 33; (with_reducible refine (tapearchiveref26_copied.calls kj53 _ _ l0_2 t403 _ ?side1 ?side2 A79.out).mono ?_); (case side1 => repeat (first | exact (Kd.C_below HR0_2.out HB.out) | (with_reducible refine Kd.C_alloc ?_ _) | (with_reducible refine Kd.C_drewN ?_ _) | (with_reducible refine Kd.C_drew ?_))); (case side2 => exact HC0_2.out); rintro e w121 ⟨v404, rfl, ho0, hb⟩; have n0_ := am_ (nl_ (nm_ (ok' := fun k_ => (w.heap.size ≤ k_) ∧ k_ ≠ gb395 ∧ k_ ≠ gb396 ∧ k_ ≠ gb397) (Kd.S_N (Kd.S_bound ho0)) (fun k_ hk_ => ⟨(Nat.le_trans (bz_ (pb3_ HB.out GE395.out GE396.out GE397.out)) hk_.2.1), (fb_ (g := gb395) (o := .cells #[.int .i64 a0_0, .int .i64 a0_1, .slice A0_2 l0_2.length c0_2] 24 (0, 0)) (pk_ BK395.out) k_ hk_.2.1), (fb_ (g := gb396) (o := .cells #[.int .i64 a1_0, .int .i64 a1_1, .int .i64 a1_2, .slice A1_3 l1_3.length c1_3, .int .i64 a1_4] 38 (0, 0)) (pk_ BK396.out) k_ hk_.2.1), (fb_ (g := gb397) (o := .cells #[.int .i64 0, .int .i64 0, .slice none 0 0] 24 (0, 0)) (pk_ BK397.out) k_ hk_.2.1)⟩)) (bz_ (pb3_ HB.out GE395.out GE396.out GE397.out))); have n1_ := am_ (bw_ (g := gb395) (o := .cells #[.int .i64 a0_0, .int .i64 a0_1, .slice A0_2 l0_2.length c0_2] 24 (0, 0)) (pk_ BK395.out) hb); have n2_ := am_ (bw_ (g := gb396) (o := .cells #[.int .i64 a1_0, .int .i64 a1_1, .int .i64 a1_2, .slice A1_3 l1_3.length c1_3, .int .i64 a1_4] 38 (0, 0)) (pk_ BK396.out) hb); have n3_ := am_ (bw_ (g := gb397) (o := .cells #[.int .i64 0, .int .i64 0, .slice none 0 0] 24 (0, 0)) (pk_ BK397.out) hb); have n4_ := am_ (sp_ (pb3_ HB.out GE395.out GE396.out GE397.out) hb); clear BK395; clear BK396; clear BK397; clear HB; have HO405 := n0_; have BK395 := n1_; have BK396 := n2_; have BK397 := n3_; have HB := n4_; clear n0_ n1_ n2_ n3_ n4_; (try clear hb); (try clear hb2); (try clear hk); (try clear hi); (try clear ho0); have hnb122 := NB396_397.out; have hnc122 := NB397_396.out; have hcz123_0 : w121.cell? ⟨gb396, 0, none⟩ = some (.int .i64 a1_0) := (bc_ BK396.out 0).trans rfl; have hcz123_1 : w121.cell? ⟨gb396, 1, none⟩ = some (.int .i64 a1_1) := (bc_ BK396.out 1).trans rfl; have hcz123_2 : w121.cell? ⟨gb396, 2, none⟩ = some (.int .i64 a1_2) := (bc_ BK396.out 2).trans rfl; have hcz123_3 : w121.cell? ⟨gb396, 3, none⟩ = some (.slice A1_3 l1_3.length c1_3) := (bc_ BK396.out 3).trans rfl; have hcz123_4 : w121.cell? ⟨gb396, 4, none⟩ = some (.int .i64 a1_4) := (bc_ BK396.out 4).trans rfl; have hfz123_0 := bf_ BK396.out 0; have hfz123_1 := bf_ BK396.out 1; have hfz123_2 := bf_ BK396.out 2; have hfz123_3 := bf_ BK396.out 3; have hfz123_4 := bf_ BK396.out 4; have hcz124_0 : w121.cell? ⟨gb395, 0, none⟩ = some (.int .i64 a0_0) := (bc_ BK395.out 0).trans rfl; have hcz124_1 : w121.cell? ⟨gb395, 1, none⟩ = some (.int .i64 a0_1) := (bc_ BK395.out 1).trans rfl; have hcz124_2 : w121.cell? ⟨gb395, 2, none⟩ = some (.slice A0_2 l0_2.length c0_2) := (bc_ BK395.out 2).trans rfl; have hfz124_0 := bf_ BK395.out 0; have hfz124_1 := bf_ BK395.out 1; have hfz124_2 := bf_ BK395.out 2; obtain ⟨Ao125, co125, eo125⟩ := Kd.N_slice HO405.out; subst eo125; have hcz126_0 : w121.cell? ⟨gb397, 0, none⟩ = some (.int .i64 0) := (bc_ BK397.out 0).trans rfl; have hcz126_1 : w121.cell? ⟨gb397, 1, none⟩ = some (.int .i64 0) := (bc_ BK397.out 1).trans rfl; have hcz126_2 : w121.cell? ⟨gb397, 2, none⟩ = some (.slice none 0 0) := (bc_ BK397.out 2).trans rfl; have hfz126_0 := bf_ BK397.out 0; have hfz126_1 := bf_ BK397.out 1; have hfz126_2 := bf_ BK397.out 2)))
           refine bodyPost_ret (results_ctt rfl _ _ gb397 24 #[.int .i64 a1_0, .int .i64 ji117, .slice Ao125 t403.length co125] (0, 0) _ rfl (by (with_reducible repeat (first | refine bn_ ?_ _ | refine bd_ ?_ | refine ba_ ?_ _)); refine blk_put (cs := #[.int .i64 a1_0, .int .i64 ji117, .slice none 0 0]) ?_ 2 _ rfl; (with_reducible repeat (first | refine bn_ ?_ _ | refine bd_ ?_ | refine ba_ ?_ _)); refine blk_put (cs := #[.int .i64 a1_0, .int .i64 0, .slice none 0 0]) ?_ 1 _ rfl; (with_reducible repeat (first | refine bn_ ?_ _ | refine bd_ ?_ | refine ba_ ?_ _)); refine blk_put (cs := #[.int .i64 0, .int .i64 0, .slice none 0 0]) ?_ 0 _ rfl; (with_reducible repeat (first | refine bn_ ?_ _ | refine bd_ ?_ | refine ba_ ?_ _)); exact BK397.out) Try.underlying24 rfl (by kernel_rfl)) rfl ?_; exact ⟨_, by first | rfl | (simp [errW_none, errW_some] <;> rfl) | (simp only [← hji116, ← hji117]; first | rfl | (simp [errW_none, errW_some] <;> rfl)) | (simp [*, errW_none, errW_some] <;> rfl), by (with_reducible repeat (first | apply na_ | apply nn_ | apply nd_)); exact nm_ (nf_ (p := ⟨gb397, 2, none⟩) (nf_ (p := ⟨gb397, 1, none⟩) (nf_ (p := ⟨gb397, 0, none⟩) (nm_ HO405.out (fun k_ hk => (⟨hk, hk.2.2.2⟩ : _ ∧ k_ ≠ gb397))) (fun _ hk => hk.2) (.int .i64 a1_0)) (fun _ hk => hk.2) (.int .i64 ji117)) (fun _ hk => hk.2) (.slice Ao125 t403.length co125)) (fun _ hk => hk.1.1), pb3_ HB.out GE395.out GE396.out GE397.out⟩
end Go.Proofs.Ytbigcpjlahkggaa.Q
