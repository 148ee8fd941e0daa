import Derived.Test.YtbigcpjlahkggaaKReplicaCommits8
set_option linter.unusedVariables false
set_option linter.unusedSimpArgs false
namespace Go.Proofs.Ytbigcpjlahkggaa.Q
open Go.RowKit Go.Proofs.YtbigcpjlahkggaaW.PrintWords Go.Proofs.YtbigcpjlahkggaaW.PrintLast Go.Proofs.YtbigcpjlahkggaaW.PrintMore
attribute [local go_sem] max2_int min2_int max_two min_two max_three min_three max_four min_four
attribute [local go_sem ↓] isSome_setCell
attribute [local go_sem] string_gtr
set_option linter.unusedVariables false
set_option linter.unusedSimpArgs false
mutual
def tapearchivelaw26_awake.j0 : Nat → List (S35) → Bool → Int → Int → List (S87) → Option (Bool)
 | 0, _, _, _, _, _ => none
 | k + 1, x1, x28, x233000, x233001, x233002 => if x28 = true then (some false) else ((replica_Append.f k x233000 x233001 x233002 (([120] : List Int))).bind fun bt236 => (if bt236.2.2.2 = 0 then (tapearchivelaw26_awake.j1 k x1 ((bt236.2.2.1.length : Int) != 1) bt236.1 bt236.2.1 bt236.2.2.1) else (tapearchivelaw26_awake.j1 k x1 true bt236.1 bt236.2.1 bt236.2.2.1)))
def tapearchivelaw26_awake.j1 : Nat → List (S35) → Bool → Int → Int → List (S87) → Option (Bool)
 | 0, _, _, _, _, _ => none
 | k + 1, x1, x43, x233000, x233001, x233002 => if x43 = true then (some false) else ((replica_Offer.f k x233000 x233001 x233002 0).bind fun bt242 => (if 1 < (x1.length : Int) then ((replica_Accept.f k ((rd_T35 x1 1).f0) ((rd_T35 x1 1).f1) ((rd_T35 x1 1).f2) bt242.1 bt242.2.1 bt242.2.2.1 bt242.2.2.2.1 bt242.2.2.2.2.1).bind fun bt252 => (if bt242.2.2.2.2.2 = 0 then (if bt252.2.2.2.2 = 0 then (if bt252.2.2.2.1 = 1 then (if (bt252.2.2.1.length : Int) = 1 then (if bt252.1 = 1 then ((replica_Committed.f k x233000 x233001 x233002 (([1, 1, 0] : List Int))).bind fun t263 => (some (t263 == 1))) else (some false)) else (some false)) else (some false)) else (some false)) else (some false))) else (none)))
end
def tapearchivelaw26_awake.f (k : Nat)  : Option (Bool) := if 3 ≤ 7036874417766 then ((some (List.replicate 3 z35 : List (S35))).bind fun y219 => ((replica_Elect.f k y219 (([true, true, false] : List Bool))).bind fun bt225 => (if bt225.1 = 0 then (if bt225.2.1 = 1 then (tapearchivelaw26_awake.j0 k y219 (bt225.2.2.2.2 != 0) bt225.2.1 bt225.2.2.1 bt225.2.2.2.1) else (tapearchivelaw26_awake.j0 k y219 true bt225.2.1 bt225.2.2.1 bt225.2.2.2.1)) else (tapearchivelaw26_awake.j0 k y219 true bt225.2.1 bt225.2.2.1 bt225.2.2.2.1)))) else (none)
def tapearchivelaw26_awake.T9 : Bool × List (List Nat × List Nat) := (true, [([], []), ([0], [0]), ([1], [1]), ([], []), ([2, 3], [2, 3]), ([4], [4]), ([5], [5]), ([5], [5]), ([5], [5]), ([], []), ([9, 6, 4, 0, 1, 2, 3, 4, 5, 6, 9], [6, 9]), ([7, 10, 0, 1, 2, 3, 4, 5, 6, 7, 9, 10], [7]), ([8, 11, 0, 1, 2, 3, 4, 5, 6, 7, 8, 9, 10, 11], [8])])
def tapearchivelaw26_awake.B9 : List Nat := [0, 1, 3, 0, 15, 31, 63, 63, 63, 0, 639, 1791, 4095]
theorem tapearchivelaw26_awake.tab9 : rtab .any (opsOf Try.f9 9) = tapearchivelaw26_awake.T9 := by kernel_rfl
theorem tapearchivelaw26_awake.bits9 : waitsOk tapearchivelaw26_awake.T9.2 tapearchivelaw26_awake.B9 = true := by kernel_rfl
set_option maxHeartbeats 8000000 in
set_option maxRecDepth 100000 in
theorem tapearchivelaw26_awake.calls (k : Nat)  (r : Bool) (w : World) (HRT : Aside0 (r = true)) (h : tapearchivelaw26_awake.f k  = some r) :
  Calls Try.prog 9 #[] w fun e w' => e = .returned (.bool r) ∧ Below w.heap.size w w' := by
 have hu35 := Try.underlying35
 have hu30 := Try.underlying30
 have HB := am_ (Below.refl w.heap.size w)
 have H : (if 3 ≤ 7036874417766 then ((some (List.replicate 3 z35 : List (S35))).bind fun y219 => ((replica_Elect.f k y219 (([true, true, false] : List Bool))).bind fun bt225 => (if bt225.1 = 0 then (if bt225.2.1 = 1 then (tapearchivelaw26_awake.j0 k y219 (bt225.2.2.2.2 != 0) bt225.2.1 bt225.2.2.1 bt225.2.2.2.1) else (tapearchivelaw26_awake.j0 k y219 true bt225.2.1 bt225.2.2.1 bt225.2.2.2.1)) else (tapearchivelaw26_awake.j0 k y219 true bt225.2.1 bt225.2.2.1 bt225.2.2.2.1)))) else (none)) = some r := h
 clear h
 by_cases c1 : 3 ≤ 7036874417766
 ·
  rw [if_pos c1] at H
  have c1b0 := eq_true c1
  have c1b1 : decide (3 ≤ 7036874417766) = true := de_ c1
  clear c1
  obtain ⟨y219, hy219⟩ : ∃ y_ : List (S35), y_ = (List.replicate 3 z35) := ⟨_, rfl⟩
  replace H : ((replica_Elect.f k y219 (([true, true, false] : List Bool))).bind fun bt225 => (if bt225.1 = 0 then (if bt225.2.1 = 1 then (tapearchivelaw26_awake.j0 k y219 (bt225.2.2.2.2 != 0) bt225.2.1 bt225.2.2.1 bt225.2.2.2.1) else (tapearchivelaw26_awake.j0 k y219 true bt225.2.1 bt225.2.2.1 bt225.2.2.2.1)) else (tapearchivelaw26_awake.j0 k y219 true bt225.2.1 bt225.2.2.1 bt225.2.2.2.1))) = some r := by first | (rw [hy219]; with_reducible exact H) | (have H2_ := (Option.bind_some _ _).symm.trans H; rw [hy219]; with_reducible exact H2_) | (have H2_ := (Option.bind_some _ _).symm.trans H; with_reducible exact H2_) | with_reducible exact H | (rw [hy219]; exact H) | exact H
  have Ny219 := am_ hy219
  clear hy219
  obtain ⟨y222, hy222⟩ : ∃ y_ : List Bool, y_ = (([true, true, false] : List Bool)) := ⟨_, rfl⟩
  replace H : ((replica_Elect.f k y219 y222).bind fun bt225 => (if bt225.1 = 0 then (if bt225.2.1 = 1 then (tapearchivelaw26_awake.j0 k y219 (bt225.2.2.2.2 != 0) bt225.2.1 bt225.2.2.1 bt225.2.2.2.1) else (tapearchivelaw26_awake.j0 k y219 true bt225.2.1 bt225.2.2.1 bt225.2.2.2.1)) else (tapearchivelaw26_awake.j0 k y219 true bt225.2.1 bt225.2.2.1 bt225.2.2.2.1))) = some r := by first | (rw [hy222]; with_reducible exact H) | (have H2_ := (Option.bind_some _ _).symm.trans H; rw [hy222]; with_reducible exact H2_) | (have H2_ := (Option.bind_some _ _).symm.trans H; with_reducible exact H2_) | with_reducible exact H | (rw [hy222]; exact H) | exact H
  have Ny222 := am_ hy222
  clear hy222
  replace H := Option.bind_eq_some_iff.mp H
  obtain ⟨⟨t225, t226, t227, t228, t231⟩, A20, H⟩ := H
  replace H : (if t225 = 0 then (if t226 = 1 then (tapearchivelaw26_awake.j0 k y219 (t231 != 0) t226 t227 t228) else (tapearchivelaw26_awake.j0 k y219 true t226 t227 t228)) else (tapearchivelaw26_awake.j0 k y219 true t226 t227 t228)) = some r := H
  have A2 := am_ A20
  clear A20
  have HC3 := am_ H
  clear H
  go_enter Try.func9, Try.ntmps9
  go_upto_region 3 with (first | ((with_reducible refine gate_dst (N := 10) rfl ?_); (try (refine gate_guard (by rfl) ?_; dsimp only)); refine Kd.N_make k35 _ 35 rfl (N' := 10) rfl 56 _ _ rfl 3 rfl rfl Try.underlying56 (.agg #[(.int .i64 0), (.int .i64 0), (.slice none 0 0)]) 40 info35 rfl (by decide) (by omega) z35 (ok := fun k_ => w.heap.size ≤ k_) (okp := fun _ => False) (k35_mkF _ _ z35 (Nat.le_refl _) (Kd.F_nil _ _ _)) (fun _ hk => hk.elim) (Nat.le_refl _) (by omega) (by omega) (Below.refl _ _) (Nat.le_refl _) ?_; intro v220 w4 ho5 hb hg_ hnew_; clear hg_ hnew_; (first | rw [← Ny219.out] at ho5 | (simp only [Int.reduceToNat] at ho5; rw [← Ny219.out] at ho5)); have n0_ := am_ (nl_ (nm_ (ok' := fun k_ => True) ho5 (fun k_ hk_ => trivial)) (bz_ (pb0_ HB.out))); have n1_ := am_ (sp_ (pb0_ HB.out) hb); clear HB; have HO221 := n0_; have HB := n1_; clear n0_ n1_; clear hb ho5) | ((with_reducible refine gate_dst (N := 13) rfl ?_); (try (refine gate_guard (by rfl) ?_; dsimp only)); refine Kd.R_lit Kd.bool _ 4 ?hg (N := 13) ?hd (xs := ([true, true, false] : List Bool)) (inner := [.bool true, .bool true, .bool false]) (ok := fun _ => True) (okp := fun _ => True) ?hr ?hp (fun _ hk => hk) trivial (Below.refl _ _) (Nat.le_refl _) (by simp) ?_; (case hd => rfl); (case hg => rfl); (case hr => first | (go_simp; done) | (go_simp; rfl)); (case hp => exact (Reps.one (show Kd.M Kd.bool _ _ _ true [.bool true] from rfl) (Reps.one (show Kd.M Kd.bool _ _ _ true [.bool true] from rfl) (Reps.one (show Kd.M Kd.bool _ _ _ false [.bool false] from rfl) (Reps.none _ _))))); intro v223 w6 ho7 hb hg_ hnew_; clear hg_ hnew_; (first | rw [← Ny222.out] at ho7 | (simp only [Int.reduceToNat] at ho7; rw [← Ny222.out] at ho7)); have n0_ := am_ (Kd.N_elder' (pN_ HO221.out) (Kd.R_base ho7) hb); have n1_ := am_ (Kd.R_lower ho7 (bz_ (pb0_ HB.out))); have n2_ := am_ (sp_ (pb0_ HB.out) hb); clear HO221; clear HB; have HO221 := n0_; have HO224 := n1_; have HB := n2_; clear n0_ n1_ n2_; clear hb ho7; obtain ⟨Ao8, co8, eo8⟩ := Kd.N_slice HO221.out; subst eo8; obtain ⟨Ao9, co9, eo9⟩ := Kd.R_slice HO224.out; subst eo9) | ((with_reducible refine gate_callee (f := 21) rfl ?_); refine goesL_ (some 14) rfl rfl Try.func21 (by kernel_rfl) rfl #[.slice Ao8 y219.length co8, .slice Ao9 y222.length co9] rfl au_ ?_; (with_reducible refine (replica_Elect.calls k (fun k_ => (True ∧ some k_ ≠ (.slice Ao9 y222.length co9 : Value).ownBlock)) _ _ y219 _ _ y222 t225 t226 t227 t228 t231 _ ?side1 ?side2 ?side3 A2.out).mono ?_); (case side1 => exact Kd.N_V (HO221.out)); (case side2 => repeat (first | exact (Kd.R_reads' HO224.out).2.2 | (with_reducible refine Kd.C_alloc ?_ _) | (with_reducible refine Kd.C_drewN ?_ _) | (with_reducible refine Kd.C_drew ?_))); (case side3 => exact (Kd.R_reads' HO224.out).2.1); rintro e w10 ⟨v229, rfl, ho0, hb⟩; refine ⟨_, rfl, ?_⟩; have n0_ := am_ (Kd.N_elder' (pN_ HO221.out) (Kd.N_base ho0) hb); have n1_ := am_ (Kd.R_below (pR_ HO224.out) hb); have n2_ := am_ (nl_ (nm_ (ok' := fun k_ => some k_ ≠ (.slice Ao9 y222.length co9 : Value).ownBlock) ho0 (fun k_ hk_ => Or.elim hk_ (fun hs_ => hs_.2) (fun hn_ => (Kd.fresh' (Kd.R_lt (pR_ HO224.out)) k_ hn_)))) (bz_ (pb0_ HB.out))); have n3_ := am_ (sp_ (pb0_ HB.out) hb); clear HO221; clear HO224; clear HB; have HO221 := n0_; have HO224 := n1_; have HO230 := n2_; have HB := n3_; clear n0_ n1_ n2_ n3_; (try clear hb); (try clear hb2); (try clear hk); (try clear hi); (try clear ho0)) | ((with_reducible refine gate_dst (N := 3) rfl ?_); (try (refine gate_guard (by rfl) ?_; dsimp only)); refine box_event ?hg (N := 3) ?hd (cs := #[.int .i64 0, .int .i64 0, .slice none 0 0]) (t := 35) ?hr ?_; (case hd => rfl); (case hg => rfl); (case hr => first | (go_simp; done) | (go_simp; rfl)); intro gb232 hg w11 hbox hb; have n0_ := am_ (nb_ (Kd.N_elderB (pN_ HO221.out) gb232 (le_ hg.symm)) hb); have n1_ := am_ (Kd.R_below (pR_ HO224.out) hb); have n2_ := am_ (nb_ (Kd.N_elderB (pN_ HO230.out) gb232 (le_ hg.symm)) hb); have n3_ := am_ (sp_ (pb0_ HB.out) hb); have n4_ := am_ (hbox); have n5_ := am_ ((by rw [hg]; exact (bz_ (pb0_ HB.out)) : w.heap.size ≤ gb232)); have n6_ := am_ ((by rw [hg]; exact (bz_ (pb0_ HB.out)) : w.heap.size ≤ gb232)); clear HO221; clear HO224; clear HO230; clear HB; have HO221 := n0_; have HO224 := n1_; have HO230 := n2_; have HB := n3_; have BK232 := n4_; have GW232 := n5_; have GE232 := n6_; clear n0_ n1_ n2_ n3_ n4_ n5_ n6_; clear hb hbox hg; have hcz12_0 : w11.cell? ⟨gb232, 0, none⟩ = some (.int .i64 0) := (bc_ BK232.out 0).trans rfl; have hcz12_1 : w11.cell? ⟨gb232, 1, none⟩ = some (.int .i64 0) := (bc_ BK232.out 1).trans rfl; have hcz12_2 : w11.cell? ⟨gb232, 2, none⟩ = some (.slice none 0 0) := (bc_ BK232.out 2).trans rfl; have hfz12_0 := bf_ BK232.out 0; have hfz12_1 := bf_ BK232.out 1; have hfz12_2 := bf_ BK232.out 2; obtain ⟨Ao13, co13, eo13⟩ := Kd.N_slice HO230.out; subst eo13))
  (try simp only [Act.put, lt1_, lt2_, lt3_])
  go_cut [28] (fun v28 wc => ∃ (kq : Nat) (x28_2 : Bool), v28 = .bool x28_2 ∧ Aside0 (tapearchivelaw26_awake.j0 kq y219 x28_2 t226 t227 t228 = some r) ∧ Aside0 (kq ≤ k) ∧ Aside0 (Kd.N k35 35 wc w.heap.size (fun k_ => some k_ ≠ ((.slice Ao13 t228.length co13) : Value).ownBlock ∧ k_ ≠ gb232) (.slice Ao8 y219.length co8) y219) ∧ Aside0 (Kd.N k87 87 wc w.heap.size (fun k_ => k_ ≠ gb232) (.slice Ao13 t228.length co13) t228) ∧ Aside0 (wc.heap[gb232]? = some (.cells #[.int .i64 t226, .int .i64 t227, (.slice Ao13 t228.length co13)] 35 (0, 0))) ∧ Aside0 (Below w.heap.size w wc))
  case first =>
   have H := HC3.out
   clear HC3
   by_cases c14 : t225 = 0
   ·
    rw [if_pos c14] at H
    have c14b0 : (t225 == 0) = true := beq_iff_eq.mpr c14
    have c14b1 : (t225 != 0) = false := bne_eq_false_iff_eq.mpr c14
    clear c14
    (first | rw [c14b0] | (simp only [i64_w, i32_w]; rw [c14b0]) | rw [c14b2] | skip)
    by_cases c15 : t226 = 1
    ·
     rw [if_pos c15] at H
     have c15b0 : (t226 == 1) = true := beq_iff_eq.mpr c15
     have c15b1 : (t226 != 1) = false := bne_eq_false_iff_eq.mpr c15
     clear c15
     have H' := am_ H
     clear H
     have hcz16_0 : w11.cell? ⟨gb232, 0, none⟩ = some (.int .i64 0) := (bc_ BK232.out 0).trans rfl
     have hcz16_1 : w11.cell? ⟨gb232, 1, none⟩ = some (.int .i64 0) := (bc_ BK232.out 1).trans rfl
     have hcz16_2 : w11.cell? ⟨gb232, 2, none⟩ = some (.slice none 0 0) := (bc_ BK232.out 2).trans rfl
     have hfz16_0 := bf_ BK232.out 0
     have hfz16_1 := bf_ BK232.out 1
     have hfz16_2 := bf_ BK232.out 2
     go_wp2
     go_meet
     case rel => exact ⟨_, ((t231 != 0)), (by first | rfl | (simp; done) | (simp [*]; done)), H', ⟨by first | omega | exact Nat.le_refl _⟩, ⟨by (with_reducible repeat (first | apply na_ | apply nn_ | apply nd_)); exact nm_ (nf_ (p := ⟨gb232, 2, none⟩) (nf_ (p := ⟨gb232, 1, none⟩) (nf_ (p := ⟨gb232, 0, none⟩) (nm_ HO221.out (fun k_ hk => (⟨hk, hk.2⟩ : _ ∧ k_ ≠ gb232))) (fun _ hk => hk.2) (.int .i64 t226)) (fun _ hk => hk.2) (.int .i64 t227)) (fun _ hk => hk.2) (.slice Ao13 t228.length co13)) (fun _ hk => ⟨hk.1.1.2, hk.1.2⟩)⟩, ⟨by (with_reducible repeat (first | apply na_ | apply nn_ | apply nd_)); exact nm_ (nf_ (p := ⟨gb232, 2, none⟩) (nf_ (p := ⟨gb232, 1, none⟩) (nf_ (p := ⟨gb232, 0, none⟩) (nm_ HO230.out (fun k_ hk => (⟨hk, hk.2⟩ : _ ∧ k_ ≠ gb232))) (fun _ hk => hk.2) (.int .i64 t226)) (fun _ hk => hk.2) (.int .i64 t227)) (fun _ hk => hk.2) (.slice Ao13 t228.length co13)) (fun _ hk => hk.1.2)⟩, ⟨by (with_reducible repeat (first | refine bn_ ?_ _ | refine bd_ ?_ | refine ba_ ?_ _)); refine blk_put (cs := #[.int .i64 t226, .int .i64 t227, .slice none 0 0]) ?_ 2 _ rfl; (with_reducible repeat (first | refine bn_ ?_ _ | refine bd_ ?_ | refine ba_ ?_ _)); refine blk_put (cs := #[.int .i64 t226, .int .i64 0, .slice none 0 0]) ?_ 1 _ rfl; (with_reducible repeat (first | refine bn_ ?_ _ | refine bd_ ?_ | refine ba_ ?_ _)); refine blk_put (cs := #[.int .i64 0, .int .i64 0, .slice none 0 0]) ?_ 0 _ rfl; (with_reducible repeat (first | refine bn_ ?_ _ | refine bd_ ?_ | refine ba_ ?_ _)); exact BK232.out⟩, ⟨pb1_ HB.out GE232.out⟩⟩
    ·
     rw [if_neg c15] at H
     have c15b0 : (t226 == 1) = false := beq_eq_false_iff_ne.mpr c15
     have c15b1 : (t226 != 1) = true := bne_iff_ne.mpr c15
     have H' := am_ H
     clear H
     have hcz17_0 : w11.cell? ⟨gb232, 0, none⟩ = some (.int .i64 0) := (bc_ BK232.out 0).trans rfl
     have hcz17_1 : w11.cell? ⟨gb232, 1, none⟩ = some (.int .i64 0) := (bc_ BK232.out 1).trans rfl
     have hcz17_2 : w11.cell? ⟨gb232, 2, none⟩ = some (.slice none 0 0) := (bc_ BK232.out 2).trans rfl
     have hfz17_0 := bf_ BK232.out 0
     have hfz17_1 := bf_ BK232.out 1
     have hfz17_2 := bf_ BK232.out 2
     go_wp2
     go_meet
     case rel => exact ⟨_, (true), (by first | rfl | (simp; done) | (simp [*]; done)), H', ⟨by first | omega | exact Nat.le_refl _⟩, ⟨by (with_reducible repeat (first | apply na_ | apply nn_ | apply nd_)); exact nm_ (nf_ (p := ⟨gb232, 2, none⟩) (nf_ (p := ⟨gb232, 1, none⟩) (nf_ (p := ⟨gb232, 0, none⟩) (nm_ HO221.out (fun k_ hk => (⟨hk, hk.2⟩ : _ ∧ k_ ≠ gb232))) (fun _ hk => hk.2) (.int .i64 t226)) (fun _ hk => hk.2) (.int .i64 t227)) (fun _ hk => hk.2) (.slice Ao13 t228.length co13)) (fun _ hk => ⟨hk.1.1.2, hk.1.2⟩)⟩, ⟨by (with_reducible repeat (first | apply na_ | apply nn_ | apply nd_)); exact nm_ (nf_ (p := ⟨gb232, 2, none⟩) (nf_ (p := ⟨gb232, 1, none⟩) (nf_ (p := ⟨gb232, 0, none⟩) (nm_ HO230.out (fun k_ hk => (⟨hk, hk.2⟩ : _ ∧ k_ ≠ gb232))) (fun _ hk => hk.2) (.int .i64 t226)) (fun _ hk => hk.2) (.int .i64 t227)) (fun _ hk => hk.2) (.slice Ao13 t228.length co13)) (fun _ hk => hk.1.2)⟩, ⟨by (with_reducible repeat (first | refine bn_ ?_ _ | refine bd_ ?_ | refine ba_ ?_ _)); refine blk_put (cs := #[.int .i64 t226, .int .i64 t227, .slice none 0 0]) ?_ 2 _ rfl; (with_reducible repeat (first | refine bn_ ?_ _ | refine bd_ ?_ | refine ba_ ?_ _)); refine blk_put (cs := #[.int .i64 t226, .int .i64 0, .slice none 0 0]) ?_ 1 _ rfl; (with_reducible repeat (first | refine bn_ ?_ _ | refine bd_ ?_ | refine ba_ ?_ _)); refine blk_put (cs := #[.int .i64 0, .int .i64 0, .slice none 0 0]) ?_ 0 _ rfl; (with_reducible repeat (first | refine bn_ ?_ _ | refine bd_ ?_ | refine ba_ ?_ _)); exact BK232.out⟩, ⟨pb1_ HB.out GE232.out⟩⟩
   ·
    rw [if_neg c14] at H
    have c14b0 : (t225 == 0) = false := beq_eq_false_iff_ne.mpr c14
    have c14b1 : (t225 != 0) = true := bne_iff_ne.mpr c14
    (first | rw [c14b0] | (simp only [i64_w, i32_w]; rw [c14b0]) | rw [c14b2] | skip)
    have H' := am_ H
    clear H
    go_wp2
    go_meet
    case rel => exact ⟨_, (true), (by first | rfl | (simp; done) | (simp [*]; done)), H', ⟨by first | omega | exact Nat.le_refl _⟩, ⟨by (with_reducible repeat (first | apply na_ | apply nn_ | apply nd_)); exact nm_ (nf_ (p := ⟨gb232, 2, none⟩) (nf_ (p := ⟨gb232, 1, none⟩) (nf_ (p := ⟨gb232, 0, none⟩) (nm_ HO221.out (fun k_ hk => (⟨hk, hk.2⟩ : _ ∧ k_ ≠ gb232))) (fun _ hk => hk.2) (.int .i64 t226)) (fun _ hk => hk.2) (.int .i64 t227)) (fun _ hk => hk.2) (.slice Ao13 t228.length co13)) (fun _ hk => ⟨hk.1.1.2, hk.1.2⟩)⟩, ⟨by (with_reducible repeat (first | apply na_ | apply nn_ | apply nd_)); exact nm_ (nf_ (p := ⟨gb232, 2, none⟩) (nf_ (p := ⟨gb232, 1, none⟩) (nf_ (p := ⟨gb232, 0, none⟩) (nm_ HO230.out (fun k_ hk => (⟨hk, hk.2⟩ : _ ∧ k_ ≠ gb232))) (fun _ hk => hk.2) (.int .i64 t226)) (fun _ hk => hk.2) (.int .i64 t227)) (fun _ hk => hk.2) (.slice Ao13 t228.length co13)) (fun _ hk => hk.1.2)⟩, ⟨by (with_reducible repeat (first | refine bn_ ?_ _ | refine bd_ ?_ | refine ba_ ?_ _)); refine blk_put (cs := #[.int .i64 t226, .int .i64 t227, .slice none 0 0]) ?_ 2 _ rfl; (with_reducible repeat (first | refine bn_ ?_ _ | refine bd_ ?_ | refine ba_ ?_ _)); refine blk_put (cs := #[.int .i64 t226, .int .i64 0, .slice none 0 0]) ?_ 1 _ rfl; (with_reducible repeat (first | refine bn_ ?_ _ | refine bd_ ?_ | refine ba_ ?_ _)); refine blk_put (cs := #[.int .i64 0, .int .i64 0, .slice none 0 0]) ?_ 0 _ rfl; (with_reducible repeat (first | refine bn_ ?_ _ | refine bd_ ?_ | refine ba_ ?_ _)); exact BK232.out⟩, ⟨pb1_ HB.out GE232.out⟩⟩
  case rest =>
   clear HC3
   try clear c1
   try clear c1b0
   try clear c1b1
   try clear c2
   try clear p2
   try clear c9
   try clear c14
   try clear c14b0
   try clear c14b1
   try clear c14b2
   try clear c15
   try clear c15b0
   try clear c15b1
   try clear hcz12_0
   try clear hcz12_1
   try clear hcz12_2
   try clear hcz16_0
   try clear hcz16_1
   try clear hcz16_2
   try clear hcz17_0
   try clear hcz17_1
   try clear hcz17_2
   try clear hfz12_0
   try clear hfz12_1
   try clear hfz12_2
   try clear hfz16_0
   try clear hfz16_1
   try clear hfz16_2
   try clear hfz17_0
   try clear hfz17_1
   try clear hfz17_2
   obtain ⟨kq, x28_2, rfl, HA, HJ2, HO_1, HO_233002, BK232, HB⟩ := hcut
   cases kq with
   | zero => exact absurd HA.out (by simp [tapearchivelaw26_awake.j0])
   | succ kj2 =>
    have H := HA.out
    clear HA
    simp only [tapearchivelaw26_awake.j0] at H
    by_cases c18 : x28_2 = true
    ·
     subst c18
     have H1 : (some false) = some r := by rw [if_pos rfl] at H; exact H
     clear H
     have H := H1
     clear H1
     exact absurd ((si_ H).trans HRT.out) Bool.false_ne_true
    ·
     replace c18 := Bool.eq_false_iff.mpr c18
     subst c18
     have H1 : ((replica_Append.f kj2 t226 t227 t228 (([120] : List Int))).bind fun bt236 => (if bt236.2.2.2 = 0 then (tapearchivelaw26_awake.j1 kj2 y219 ((bt236.2.2.1.length : Int) != 1) bt236.1 bt236.2.1 bt236.2.2.1) else (tapearchivelaw26_awake.j1 kj2 y219 true bt236.1 bt236.2.1 bt236.2.2.1))) = some r := by rw [if_neg (show ¬ (false = true) by decide)] at H; exact H
     clear H
     have H := H1
     clear H1
     obtain ⟨y233, hy233⟩ : ∃ y_ : List Int, y_ = (([120] : List Int)) := ⟨_, rfl⟩
     replace H : ((replica_Append.f kj2 t226 t227 t228 y233).bind fun bt236 => (if bt236.2.2.2 = 0 then (tapearchivelaw26_awake.j1 kj2 y219 ((bt236.2.2.1.length : Int) != 1) bt236.1 bt236.2.1 bt236.2.2.1) else (tapearchivelaw26_awake.j1 kj2 y219 true bt236.1 bt236.2.1 bt236.2.2.1))) = some r := by first | (rw [hy233]; with_reducible exact H) | (have H2_ := (Option.bind_some _ _).symm.trans H; rw [hy233]; with_reducible exact H2_) | (have H2_ := (Option.bind_some _ _).symm.trans H; with_reducible exact H2_) | with_reducible exact H | (rw [hy233]; exact H) | exact H
     have Ny233 := am_ hy233
     clear hy233
     replace H := Option.bind_eq_some_iff.mp H
     obtain ⟨⟨t236, t237, t238, t241⟩, A190, H⟩ := H
     replace H : (if t241 = 0 then (tapearchivelaw26_awake.j1 kj2 y219 ((t238.length : Int) != 1) t236 t237 t238) else (tapearchivelaw26_awake.j1 kj2 y219 true t236 t237 t238)) = some r := H
     have A19 := am_ A190
     clear A190
     have HC20 := am_ H
     clear H
     have hcz21_0 : wc.cell? ⟨gb232, 0, none⟩ = some (.int .i64 t226) := (bc_ BK232.out 0).trans rfl
     have hcz21_1 : wc.cell? ⟨gb232, 1, none⟩ = some (.int .i64 t227) := (bc_ BK232.out 1).trans rfl
     have hcz21_2 : wc.cell? ⟨gb232, 2, none⟩ = some (.slice Ao13 t228.length co13) := (bc_ BK232.out 2).trans rfl
     have hfz21_0 := bf_ BK232.out 0
     have hfz21_1 := bf_ BK232.out 1
     have hfz21_2 := bf_ BK232.out 2
     go_upto_region 6 with (first | ((with_reducible refine gate_dst (N := 31) rfl ?_); (try (refine gate_guard (by rfl) ?_; dsimp only)); refine Kd.R_lit (Kd.int .u8) _ 5 ?hg (N := 31) ?hd (xs := ([120] : List Int)) (inner := [.int .u8 120]) (ok := fun _ => True) (okp := fun _ => True) ?hr ?hp (fun _ hk => hk) trivial (Below.refl _ _) (Nat.le_refl _) (by simp) ?_; (case hd => rfl); (case hg => rfl); (case hr => first | (go_simp; done) | (go_simp; rfl)); (case hp => exact (Reps.one (show Kd.M (Kd.int .u8) _ _ _ 120 [.int .u8 120] from rfl) (Reps.none _ _))); intro v234 w22 ho23 hb hg_ hnew_; clear hg_ hnew_; (first | rw [← Ny233.out] at ho23 | (simp only [Int.reduceToNat] at ho23; rw [← Ny233.out] at ho23)); have n0_ := am_ (Kd.N_elder' (pN_ HO_1.out) (Kd.R_base ho23) hb); have n1_ := am_ (Kd.N_elder' (pN_ HO_233002.out) (Kd.R_base ho23) hb); have n2_ := am_ (Kd.R_lower ho23 (bz_ (pb1_ HB.out GE232.out))); have n3_ := am_ (bw_ (g := gb232) (o := .cells #[.int .i64 t226, .int .i64 t227, .slice Ao13 t228.length co13] 35 (0, 0)) (pk_ BK232.out) hb); have n4_ := am_ (sp_ (pb1_ HB.out GE232.out) hb); clear HO_1; clear HO_233002; clear BK232; clear HB; have HO_1 := n0_; have HO_233002 := n1_; have HO235 := n2_; have BK232 := n3_; have HB := n4_; clear n0_ n1_ n2_ n3_ n4_; clear hb ho23; obtain ⟨Ao24, co24, eo24⟩ := Kd.R_slice HO235.out; subst eo24) | ((with_reducible refine gate_dst (N := 32) rfl ?_); refine convLit_ (some 32) rfl rfl rfl Try.underlying25 Try.underlying5 rfl HO235.out (by intro e_; injection e_ with _ e2_ _; rw [Ny233.out] at e2_; exact absurd e2_ (by decide)) ?_; intro w23c hg_ hv_; have m0_ := am_ (Kd.N_grown HO_1.out hg_ (fun k_ hk_ => hk_.2)); have m1_ := am_ (Kd.N_grown HO_233002.out hg_ (fun k_ hk_ => hk_.2)); have m3_ := am_ (blk_grown (g := gb232) (o := .cells #[.int .i64 t226, .int .i64 t227, .slice Ao13 t228.length co13] 35 (0, 0)) BK232.out hg_ (Kd.R_ne HO235.out BK232.out (by decide))); have HNE235 := am_ (Kd.R_ne HO235.out BK232.out (by decide)); have m4_ := am_ (Below.grown HB.out hg_ (bz_ HB.out) (fun k_ e_ => Kd.R_base HO235.out k_ e_)); clear HO_1; clear HO_233002; clear HO235; clear BK232; clear HB; have HO_1 := m0_; have HO_233002 := m1_; have HO235 := am_ hv_; have BK232 := m3_; have HB := m4_; clear m0_ m1_ m3_ m4_; clear hg_ hv_) | ((with_reducible refine gate_callee (f := 13) rfl ?_); refine goesL_ (some 33) rfl rfl Try.func13 (by kernel_rfl) rfl #[.agg #[.int .i64 t226, .int .i64 t227, .slice Ao13 t228.length co13], .slice Ao24 y233.length co24] rfl au_ ?_; (with_reducible refine (replica_Append.calls kj2 t226 t227 (fun k_ => (k_ ≠ gb232 ∧ some k_ ≠ (.slice Ao24 y233.length co24 : Value).ownBlock)) _ _ t228 (fun k_ => some k_ = (.slice Ao24 y233.length co24 : Value).ownBlock) _ _ y233 t236 t237 t238 t241 _ ?side1 ?side2 A19.out).mono ?_); (case side1 => exact Kd.N_V (HO_233002.out)); (case side2 => exact HO235.out); rintro e w25 ⟨v239, rfl, ho0, hb⟩; refine ⟨_, rfl, ?_⟩; have n0_ := am_ (Kd.N_elder' (pN_ HO_1.out) (Kd.N_base ho0) hb); have n1_ := am_ (Kd.N_elder' (pN_ HO_233002.out) (Kd.N_base ho0) hb); have n2_ := trivial; have n3_ := am_ (nl_ (nm_ (ok' := fun k_ => k_ ≠ gb232) ho0 (fun k_ hk_ => Or.elim hk_ (fun hs_ => Or.elim hs_ (fun hs_ => hs_.1) (fun hs_ => (fun e_ => HNE235.out (e_ ▸ hs_)))) (fun hn_ => (fb_ (g := gb232) (o := .cells #[.int .i64 t226, .int .i64 t227, .slice Ao13 t228.length co13] 35 (0, 0)) (pk_ BK232.out) k_ hn_)))) (bz_ (pb1_ HB.out GE232.out))); have n4_ := am_ (bw_ (g := gb232) (o := .cells #[.int .i64 t226, .int .i64 t227, .slice Ao13 t228.length co13] 35 (0, 0)) (pk_ BK232.out) hb); have n5_ := am_ (sp_ (pb1_ HB.out GE232.out) hb); clear HO_1; clear HO_233002; clear HO235; clear BK232; clear HB; have HO_1 := n0_; have HO_233002 := n1_; have HO235 := n2_; have HO240 := n3_; have BK232 := n4_; have HB := n5_; clear n0_ n1_ n2_ n3_ n4_ n5_; (try clear hb); (try clear hb2); (try clear hk); (try clear hi); (try clear ho0); have hcz26_0 : w25.cell? ⟨gb232, 0, none⟩ = some (.int .i64 t226) := (bc_ BK232.out 0).trans rfl; have hcz26_1 : w25.cell? ⟨gb232, 1, none⟩ = some (.int .i64 t227) := (bc_ BK232.out 1).trans rfl; have hcz26_2 : w25.cell? ⟨gb232, 2, none⟩ = some (.slice Ao13 t228.length co13) := (bc_ BK232.out 2).trans rfl; have hfz26_0 := bf_ BK232.out 0; have hfz26_1 := bf_ BK232.out 1; have hfz26_2 := bf_ BK232.out 2; obtain ⟨Ao27, co27, eo27⟩ := Kd.N_slice HO240.out; subst eo27))
     (try simp only [Act.put, lt1_, lt2_, lt3_])
     go_cut [43] (fun v43 wc => ∃ (kq : Nat) (x43_19 : Bool), v43 = .bool x43_19 ∧ Aside0 (tapearchivelaw26_awake.j1 kq y219 x43_19 t236 t237 t238 = some r) ∧ Aside0 (kq ≤ kj2) ∧ Aside0 (Kd.N k35 35 wc w.heap.size (fun k_ => some k_ ≠ ((.slice Ao27 t238.length co27) : Value).ownBlock ∧ k_ ≠ gb232) (.slice Ao8 y219.length co8) y219) ∧ Aside0 (Kd.N k87 87 wc w.heap.size (fun k_ => k_ ≠ gb232) (.slice Ao27 t238.length co27) t238) ∧ Aside0 (wc.heap[gb232]? = some (.cells #[.int .i64 t236, .int .i64 t237, (.slice Ao27 t238.length co27)] 35 (0, 0))) ∧ Aside0 (Below w.heap.size w wc))
     case first =>
      have H := HC20.out
      clear HC20
      by_cases c28 : t241 = 0
      ·
       rw [if_pos c28] at H
       have c28b0 : (t241 == 0) = true := beq_iff_eq.mpr c28
       have c28b1 : (t241 != 0) = false := bne_eq_false_iff_eq.mpr c28
       clear c28
       (first | rw [c28b0] | (simp only [i64_w, i32_w]; rw [c28b0]) | rw [c28b2] | skip)
       have H' := am_ H
       clear H
       have hcz29_0 : w25.cell? ⟨gb232, 0, none⟩ = some (.int .i64 t226) := (bc_ BK232.out 0).trans rfl
       have hcz29_1 : w25.cell? ⟨gb232, 1, none⟩ = some (.int .i64 t227) := (bc_ BK232.out 1).trans rfl
       have hcz29_2 : w25.cell? ⟨gb232, 2, none⟩ = some (.slice Ao13 t228.length co13) := (bc_ BK232.out 2).trans rfl
       have hfz29_0 := bf_ BK232.out 0
       have hfz29_1 := bf_ BK232.out 1
       have hfz29_2 := bf_ BK232.out 2
       go_wp2
       go_meet
       case rel => exact ⟨_, (((t238.length : Int) != 1)), (by first | rfl | (simp; done) | (simp [*]; done)), H', ⟨by have := HJ2.out; first | omega | exact Nat.le_refl _⟩, ⟨by (with_reducible repeat (first | apply na_ | apply nn_ | apply nd_)); exact nm_ (nf_ (p := ⟨gb232, 2, none⟩) (nf_ (p := ⟨gb232, 1, none⟩) (nf_ (p := ⟨gb232, 0, none⟩) (nm_ HO_1.out (fun k_ hk => (⟨hk, hk.1.1.2⟩ : _ ∧ k_ ≠ gb232))) (fun _ hk => hk.2) (.int .i64 t236)) (fun _ hk => hk.2) (.int .i64 t237)) (fun _ hk => hk.2) (.slice Ao27 t238.length co27)) (fun _ hk => ⟨hk.1.2, hk.1.1.1.2⟩)⟩, ⟨by (with_reducible repeat (first | apply na_ | apply nn_ | apply nd_)); exact nm_ (nf_ (p := ⟨gb232, 2, none⟩) (nf_ (p := ⟨gb232, 1, none⟩) (nf_ (p := ⟨gb232, 0, none⟩) (nm_ HO240.out (fun k_ hk => (⟨hk, hk⟩ : _ ∧ k_ ≠ gb232))) (fun _ hk => hk.2) (.int .i64 t236)) (fun _ hk => hk.2) (.int .i64 t237)) (fun _ hk => hk.2) (.slice Ao27 t238.length co27)) (fun _ hk => hk.1)⟩, ⟨by (with_reducible repeat (first | refine bn_ ?_ _ | refine bd_ ?_ | refine ba_ ?_ _)); refine blk_put (cs := #[.int .i64 t236, .int .i64 t237, .slice Ao13 t228.length co13]) ?_ 2 _ rfl; (with_reducible repeat (first | refine bn_ ?_ _ | refine bd_ ?_ | refine ba_ ?_ _)); refine blk_put (cs := #[.int .i64 t236, .int .i64 t227, .slice Ao13 t228.length co13]) ?_ 1 _ rfl; (with_reducible repeat (first | refine bn_ ?_ _ | refine bd_ ?_ | refine ba_ ?_ _)); refine blk_put (cs := #[.int .i64 t226, .int .i64 t227, .slice Ao13 t228.length co13]) ?_ 0 _ rfl; (with_reducible repeat (first | refine bn_ ?_ _ | refine bd_ ?_ | refine ba_ ?_ _)); exact BK232.out⟩, ⟨pb1_ HB.out GE232.out⟩⟩
      ·
       rw [if_neg c28] at H
       have c28b0 : (t241 == 0) = false := beq_eq_false_iff_ne.mpr c28
       have c28b1 : (t241 != 0) = true := bne_iff_ne.mpr c28
       (first | rw [c28b0] | (simp only [i64_w, i32_w]; rw [c28b0]) | rw [c28b2] | skip)
       have H' := am_ H
       clear H
       go_wp2
       go_meet
       case rel => exact ⟨_, (true), (by first | rfl | (simp; done) | (simp [*]; done)), H', ⟨by have := HJ2.out; first | omega | exact Nat.le_refl _⟩, ⟨by (with_reducible repeat (first | apply na_ | apply nn_ | apply nd_)); exact nm_ (nf_ (p := ⟨gb232, 2, none⟩) (nf_ (p := ⟨gb232, 1, none⟩) (nf_ (p := ⟨gb232, 0, none⟩) (nm_ HO_1.out (fun k_ hk => (⟨hk, hk.1.1.2⟩ : _ ∧ k_ ≠ gb232))) (fun _ hk => hk.2) (.int .i64 t236)) (fun _ hk => hk.2) (.int .i64 t237)) (fun _ hk => hk.2) (.slice Ao27 t238.length co27)) (fun _ hk => ⟨hk.1.2, hk.1.1.1.2⟩)⟩, ⟨by (with_reducible repeat (first | apply na_ | apply nn_ | apply nd_)); exact nm_ (nf_ (p := ⟨gb232, 2, none⟩) (nf_ (p := ⟨gb232, 1, none⟩) (nf_ (p := ⟨gb232, 0, none⟩) (nm_ HO240.out (fun k_ hk => (⟨hk, hk⟩ : _ ∧ k_ ≠ gb232))) (fun _ hk => hk.2) (.int .i64 t236)) (fun _ hk => hk.2) (.int .i64 t237)) (fun _ hk => hk.2) (.slice Ao27 t238.length co27)) (fun _ hk => hk.1)⟩, ⟨by (with_reducible repeat (first | refine bn_ ?_ _ | refine bd_ ?_ | refine ba_ ?_ _)); refine blk_put (cs := #[.int .i64 t236, .int .i64 t237, .slice Ao13 t228.length co13]) ?_ 2 _ rfl; (with_reducible repeat (first | refine bn_ ?_ _ | refine bd_ ?_ | refine ba_ ?_ _)); refine blk_put (cs := #[.int .i64 t236, .int .i64 t227, .slice Ao13 t228.length co13]) ?_ 1 _ rfl; (with_reducible repeat (first | refine bn_ ?_ _ | refine bd_ ?_ | refine ba_ ?_ _)); refine blk_put (cs := #[.int .i64 t226, .int .i64 t227, .slice Ao13 t228.length co13]) ?_ 0 _ rfl; (with_reducible repeat (first | refine bn_ ?_ _ | refine bd_ ?_ | refine ba_ ?_ _)); exact BK232.out⟩, ⟨pb1_ HB.out GE232.out⟩⟩
     case rest =>
      clear HC20
      try clear c1
      try clear c1b0
      try clear c1b1
      try clear c2
      try clear p2
      try clear c9
      try clear c13
      try clear c14
      try clear c14b0
      try clear c14b1
      try clear c14b2
      try clear c15
      try clear c15b0
      try clear c15b1
      try clear c18
      try clear c21
      try clear c28
      try clear c28b0
      try clear c28b1
      try clear c28b2
      try clear hcz12_0
      try clear hcz12_1
      try clear hcz12_2
      try clear hcz16_0
      try clear hcz16_1
      try clear hcz16_2
      try clear hcz17_0
      try clear hcz17_1
      try clear hcz17_2
      try clear hcz21_0
      try clear hcz21_1
      try clear hcz21_2
      try clear hcz26_0
      try clear hcz26_1
      try clear hcz26_2
      try clear hcz29_0
      try clear hcz29_1
      try clear hcz29_2
      try clear hfz12_0
      try clear hfz12_1
      try clear hfz12_2
      try clear hfz16_0
      try clear hfz16_1
      try clear hfz16_2
      try clear hfz17_0
      try clear hfz17_1
      try clear hfz17_2
      try clear hfz21_0
      try clear hfz21_1
      try clear hfz21_2
      try clear hfz26_0
      try clear hfz26_1
      try clear hfz26_2
      try clear hfz29_0
      try clear hfz29_1
      try clear hfz29_2
      try clear p2
      obtain ⟨kq, x43_19, rfl, HA, HJ19, HO_1, HO_233002, BK232, HB⟩ := hcut
      cases kq with
      | zero => exact absurd HA.out (by simp [tapearchivelaw26_awake.j1])
      | succ kj19 =>
       have H := HA.out
       clear HA
       simp only [tapearchivelaw26_awake.j1] at H
       by_cases c30 : x43_19 = true
       ·
        subst c30
        have H1 : (some false) = some r := by rw [if_pos rfl] at H; exact H
        clear H
        have H := H1
        clear H1
        exact absurd ((si_ H).trans HRT.out) Bool.false_ne_true
       ·
        replace c30 := Bool.eq_false_iff.mpr c30
        subst c30
        have H1 : ((replica_Offer.f kj19 t236 t237 t238 0).bind fun bt242 => (if 1 < (y219.length : Int) then ((replica_Accept.f kj19 ((rd_T35 y219 1).f0) ((rd_T35 y219 1).f1) ((rd_T35 y219 1).f2) bt242.1 bt242.2.1 bt242.2.2.1 bt242.2.2.2.1 bt242.2.2.2.2.1).bind fun bt252 => (if bt242.2.2.2.2.2 = 0 then (if bt252.2.2.2.2 = 0 then (if bt252.2.2.2.1 = 1 then (if (bt252.2.2.1.length : Int) = 1 then (if bt252.1 = 1 then ((replica_Committed.f kj19 t236 t237 t238 (([1, 1, 0] : List Int))).bind fun t263 => (some (t263 == 1))) else (some false)) else (some false)) else (some false)) else (some false)) else (some false))) else (none))) = some r := by rw [if_neg (show ¬ (false = true) by decide)] at H; exact H
        clear H
        have H := H1
        clear H1
        replace H := Option.bind_eq_some_iff.mp H
        obtain ⟨⟨t242, t243, t244, t245, t248, t249⟩, A310, H⟩ := H
        replace H : (if 1 < (y219.length : Int) then ((replica_Accept.f kj19 ((rd_T35 y219 1).f0) ((rd_T35 y219 1).f1) ((rd_T35 y219 1).f2) t242 t243 t244 t245 t248).bind fun bt252 => (if t249 = 0 then (if bt252.2.2.2.2 = 0 then (if bt252.2.2.2.1 = 1 then (if (bt252.2.2.1.length : Int) = 1 then (if bt252.1 = 1 then ((replica_Committed.f kj19 t236 t237 t238 (([1, 1, 0] : List Int))).bind fun t263 => (some (t263 == 1))) else (some false)) else (some false)) else (some false)) else (some false)) else (some false))) else (none)) = some r := H
        have A31 := am_ A310
        clear A310
        by_cases c32 : 1 < (y219.length : Int)
        ·
         rw [if_pos c32] at H
         have c32b0 : decide (1 < (y219.length : Int)) = true := de_ c32
         have c32b1 : decide (1 < y219.length) = true := de_ (by omega)
         clear c32
         replace H := Option.bind_eq_some_iff.mp H
         obtain ⟨⟨t252, t253, t254, t257, t258⟩, A330, H⟩ := H
         replace H : (if t249 = 0 then (if t258 = 0 then (if t257 = 1 then (if (t254.length : Int) = 1 then (if t252 = 1 then ((replica_Committed.f kj19 t236 t237 t238 (([1, 1, 0] : List Int))).bind fun t263 => (some (t263 == 1))) else (some false)) else (some false)) else (some false)) else (some false)) else (some false)) = some r := H
         have A33 := am_ A330
         clear A330
         by_cases c34 : t249 = 0
         ·
          rw [if_pos c34] at H
          have c34b0 : (t249 == 0) = true := beq_iff_eq.mpr c34
          have c34b1 : (t249 != 0) = false := bne_eq_false_iff_eq.mpr c34
          clear c34
          by_cases c35 : t258 = 0
          ·
           rw [if_pos c35] at H
           have c35b0 : (t258 == 0) = true := beq_iff_eq.mpr c35
           have c35b1 : (t258 != 0) = false := bne_eq_false_iff_eq.mpr c35
           clear c35
           by_cases c36 : t257 = 1
           ·
            rw [if_pos c36] at H
            have c36b0 : (t257 == 1) = true := beq_iff_eq.mpr c36
            have c36b1 : (t257 != 1) = false := bne_eq_false_iff_eq.mpr c36
            clear c36
            by_cases c37 : (t254.length : Int) = 1
            ·
             rw [if_pos c37] at H
             have c37b0 : ((t254.length : Int) == 1) = true := beq_iff_eq.mpr c37
             have c37b1 : ((t254.length : Int) != 1) = false := bne_eq_false_iff_eq.mpr c37
             clear c37
             by_cases c38 : t252 = 1
             ·
              rw [if_pos c38] at H
              have c38b0 : (t252 == 1) = true := beq_iff_eq.mpr c38
              have c38b1 : (t252 != 1) = false := bne_eq_false_iff_eq.mpr c38
              clear c38
              obtain ⟨y260, hy260⟩ : ∃ y_ : List Int, y_ = (([1, 1, 0] : List Int)) := ⟨_, rfl⟩
              replace H : ((replica_Committed.f kj19 t236 t237 t238 y260).bind fun t263 => (some (t263 == 1))) = some r := by first | (rw [hy260]; with_reducible exact H) | (have H2_ := (Option.bind_some _ _).symm.trans H; rw [hy260]; with_reducible exact H2_) | (have H2_ := (Option.bind_some _ _).symm.trans H; with_reducible exact H2_) | with_reducible exact H | (rw [hy260]; exact H) | exact H
              have Ny260 := am_ hy260
              clear hy260
              replace H := Option.bind_eq_some_iff.mp H
              obtain ⟨t263, A390, H⟩ := H
              replace H : (some (t263 == 1)) = some r := H
              have A39 := am_ A390
              clear A390
              obtain rfl := si_ H
              have hcz40_0 : wc.cell? ⟨gb232, 0, none⟩ = some (.int .i64 t236) := (bc_ BK232.out 0).trans rfl
              have hcz40_1 : wc.cell? ⟨gb232, 1, none⟩ = some (.int .i64 t237) := (bc_ BK232.out 1).trans rfl
              have hcz40_2 : wc.cell? ⟨gb232, 2, none⟩ = some (.slice Ao27 t238.length co27) := (bc_ BK232.out 2).trans rfl
              have hfz40_0 := bf_ BK232.out 0
              have hfz40_1 := bf_ BK232.out 1
              have hfz40_2 := bf_ BK232.out 2
              try go_wp2_with (first | ((with_reducible refine gate_callee (f := 10) rfl ?_); refine goesL_ (some 46) rfl rfl Try.func10 (by kernel_rfl) rfl #[.agg #[.int .i64 t236, .int .i64 t237, .slice Ao27 t238.length co27], .int .i64 0] rfl au_ ?_; (with_reducible refine (replica_Offer.calls kj19 t236 t237 (fun k_ => k_ ≠ gb232) _ _ t238 0 t242 t243 t244 t245 t248 t249 _ ?side1 A31.out).mono ?_); (case side1 => exact Kd.N_V (HO_233002.out)); rintro e w41 ⟨v246, rfl, ho0, hb⟩; refine ⟨_, rfl, ?_⟩; have n0_ := am_ (Kd.N_elder' (pN_ HO_1.out) (Kd.N_base ho0) hb); have n1_ := am_ (Kd.N_elder' (pN_ HO_233002.out) (Kd.N_base ho0) hb); have n2_ := am_ (nl_ (nm_ (ok' := fun k_ => k_ ≠ gb232) ho0 (fun k_ hk_ => Or.elim hk_ (fun hs_ => hs_) (fun hn_ => (fb_ (g := gb232) (o := .cells #[.int .i64 t236, .int .i64 t237, .slice Ao27 t238.length co27] 35 (0, 0)) (pk_ BK232.out) k_ hn_)))) (bz_ (pb1_ HB.out GE232.out))); have n3_ := am_ (bw_ (g := gb232) (o := .cells #[.int .i64 t236, .int .i64 t237, .slice Ao27 t238.length co27] 35 (0, 0)) (pk_ BK232.out) hb); have n4_ := am_ (sp_ (pb1_ HB.out GE232.out) hb); clear HO_1; clear HO_233002; clear BK232; clear HB; have HO_1 := n0_; have HO_233002 := n1_; have HO247 := n2_; have BK232 := n3_; have HB := n4_; clear n0_ n1_ n2_ n3_ n4_; (try clear hb); (try clear hb2); (try clear hk); (try clear hi); (try clear ho0)) | ((with_reducible refine gate_dst (N := 5) rfl ?_); (try (refine gate_guard (by rfl) ?_; dsimp only)); refine box_event ?hg (N := 5) ?hd (cs := #[.int .i64 0, .int .i64 0, .int .i64 0, .slice none 0 0, .int .i64 0]) (t := 30) ?hr ?_; (case hd => rfl); (case hg => rfl); (case hr => first | (go_simp; done) | (go_simp; rfl)); intro gb250 hg w42 hbox hb; have n0_ := am_ (nb_ (Kd.N_elderB (pN_ HO_1.out) gb250 (le_ hg.symm)) hb); have n1_ := am_ (nb_ (Kd.N_elderB (pN_ HO_233002.out) gb250 (le_ hg.symm)) hb); have n2_ := am_ (nb_ (Kd.N_elderB (pN_ HO247.out) gb250 (le_ hg.symm)) hb); have n3_ := am_ (bw_ (g := gb232) (o := .cells #[.int .i64 t236, .int .i64 t237, .slice Ao27 t238.length co27] 35 (0, 0)) (pk_ BK232.out) hb); have n4_ := am_ (sp_ (pb1_ HB.out GE232.out) hb); have n5_ := am_ (hbox); have n6_ := am_ ((by rw [hg]; exact (bz_ (pb1_ HB.out GE232.out)) : w.heap.size ≤ gb250)); have n7_ := am_ ((by rw [hg]; exact (bz_ (pb1_ HB.out GE232.out)) : w.heap.size ≤ gb250)); have n8_ := am_ ((by rw [hg]; exact Nat.ne_of_lt (blk_lt (g := gb232) (o := .cells #[.int .i64 t236, .int .i64 t237, .slice Ao27 t238.length co27] 35 (0, 0)) (pk_ BK232.out)) : gb232 ≠ gb250)); have n9_ := am_ ((by rw [hg]; exact Nat.ne_of_gt (blk_lt (g := gb232) (o := .cells #[.int .i64 t236, .int .i64 t237, .slice Ao27 t238.length co27] 35 (0, 0)) (pk_ BK232.out)) : gb250 ≠ gb232)); clear HO_1; clear HO_233002; clear HO247; clear BK232; clear HB; have HO_1 := n0_; have HO_233002 := n1_; have HO247 := n2_; have BK232 := n3_; have HB := n4_; have BK250 := n5_; have GW250 := n6_; have GE250 := n7_; have NB232_250 := n8_; have NB250_232 := n9_; clear n0_ n1_ n2_ n3_ n4_ n5_ n6_ n7_ n8_ n9_; clear hb hbox hg; have hnb43 := NB250_232.out; have hnc43 := NB232_250.out; have hcz44_0 : w42.cell? ⟨gb250, 0, none⟩ = some (.int .i64 0) := (bc_ BK250.out 0).trans rfl; have hcz44_1 : w42.cell? ⟨gb250, 1, none⟩ = some (.int .i64 0) := (bc_ BK250.out 1).trans rfl; have hcz44_2 : w42.cell? ⟨gb250, 2, none⟩ = some (.int .i64 0) := (bc_ BK250.out 2).trans rfl; have hcz44_3 : w42.cell? ⟨gb250, 3, none⟩ = some (.slice none 0 0) := (bc_ BK250.out 3).trans rfl; have hcz44_4 : w42.cell? ⟨gb250, 4, none⟩ = some (.int .i64 0) := (bc_ BK250.out 4).trans rfl; have hfz44_0 := bf_ BK250.out 0; have hfz44_1 := bf_ BK250.out 1; have hfz44_2 := bf_ BK250.out 2; have hfz44_3 := bf_ BK250.out 3; have hfz44_4 := bf_ BK250.out 4; obtain ⟨Ao45, co45, eo45⟩ := Kd.N_slice HO247.out; subst eo45))
              have n0_ : Aside0 (Kd.N k35 35 (((((w42.setCell ⟨gb250, 0, none⟩ (.int .i64 t242)).setCell ⟨gb250, 1, none⟩ (.int .i64 t243)).setCell ⟨gb250, 2, none⟩ (.int .i64 t244)).setCell ⟨gb250, 3, none⟩ (.slice Ao45 t245.length co45)).setCell ⟨gb250, 4, none⟩ (.int .i64 t248)) w.heap.size (fun k_ => some k_ ≠ (.slice Ao27 t238.length co27 : Value).ownBlock ∧ some k_ ≠ (.slice Ao45 t245.length co45 : Value).ownBlock ∧ k_ ≠ gb232 ∧ k_ ≠ gb250) (.slice Ao8 y219.length co8) y219) := ⟨by (with_reducible repeat (first | apply na_ | apply nn_ | apply nd_)); exact nm_ (nf_ (p := ⟨gb250, 4, none⟩) (nf_ (p := ⟨gb250, 3, none⟩) (nf_ (p := ⟨gb250, 2, none⟩) (nf_ (p := ⟨gb250, 1, none⟩) (nf_ (p := ⟨gb250, 0, none⟩) (nm_ HO_1.out (fun k_ hk => (⟨hk, hk.2⟩ : _ ∧ k_ ≠ gb250))) (fun _ hk => hk.2) (.int .i64 t242)) (fun _ hk => hk.2) (.int .i64 t243)) (fun _ hk => hk.2) (.int .i64 t244)) (fun _ hk => hk.2) (.slice Ao45 t245.length co45)) (fun _ hk => hk.2) (.int .i64 t248)) (fun _ hk => ⟨hk.1.1.1.1, ⟨hk.1.1.2, ⟨hk.1.1.1.2, hk.1.2⟩⟩⟩)⟩
              have n1_ : Aside0 (Kd.N k87 87 (((((w42.setCell ⟨gb250, 0, none⟩ (.int .i64 t242)).setCell ⟨gb250, 1, none⟩ (.int .i64 t243)).setCell ⟨gb250, 2, none⟩ (.int .i64 t244)).setCell ⟨gb250, 3, none⟩ (.slice Ao45 t245.length co45)).setCell ⟨gb250, 4, none⟩ (.int .i64 t248)) w.heap.size (fun k_ => some k_ ≠ (.slice Ao45 t245.length co45 : Value).ownBlock ∧ k_ ≠ gb232 ∧ k_ ≠ gb250) (.slice Ao27 t238.length co27) t238) := ⟨by (with_reducible repeat (first | apply na_ | apply nn_ | apply nd_)); exact nm_ (nf_ (p := ⟨gb250, 4, none⟩) (nf_ (p := ⟨gb250, 3, none⟩) (nf_ (p := ⟨gb250, 2, none⟩) (nf_ (p := ⟨gb250, 1, none⟩) (nf_ (p := ⟨gb250, 0, none⟩) (nm_ HO_233002.out (fun k_ hk => (⟨hk, hk.2⟩ : _ ∧ k_ ≠ gb250))) (fun _ hk => hk.2) (.int .i64 t242)) (fun _ hk => hk.2) (.int .i64 t243)) (fun _ hk => hk.2) (.int .i64 t244)) (fun _ hk => hk.2) (.slice Ao45 t245.length co45)) (fun _ hk => hk.2) (.int .i64 t248)) (fun _ hk => ⟨hk.1.1.2, ⟨hk.1.1.1, hk.1.2⟩⟩)⟩
              have n2_ : Aside0 (Kd.N k87 87 (((((w42.setCell ⟨gb250, 0, none⟩ (.int .i64 t242)).setCell ⟨gb250, 1, none⟩ (.int .i64 t243)).setCell ⟨gb250, 2, none⟩ (.int .i64 t244)).setCell ⟨gb250, 3, none⟩ (.slice Ao45 t245.length co45)).setCell ⟨gb250, 4, none⟩ (.int .i64 t248)) w.heap.size (fun k_ => k_ ≠ gb232 ∧ k_ ≠ gb250) (.slice Ao45 t245.length co45) t245) := ⟨by (with_reducible repeat (first | apply na_ | apply nn_ | apply nd_)); exact nm_ (nf_ (p := ⟨gb250, 4, none⟩) (nf_ (p := ⟨gb250, 3, none⟩) (nf_ (p := ⟨gb250, 2, none⟩) (nf_ (p := ⟨gb250, 1, none⟩) (nf_ (p := ⟨gb250, 0, none⟩) (nm_ HO247.out (fun k_ hk => (⟨hk, hk.2⟩ : _ ∧ k_ ≠ gb250))) (fun _ hk => hk.2) (.int .i64 t242)) (fun _ hk => hk.2) (.int .i64 t243)) (fun _ hk => hk.2) (.int .i64 t244)) (fun _ hk => hk.2) (.slice Ao45 t245.length co45)) (fun _ hk => hk.2) (.int .i64 t248)) (fun _ hk => ⟨hk.1.1, hk.1.2⟩)⟩
              have n3_ : Aside0 ((((((w42.setCell ⟨gb250, 0, none⟩ (.int .i64 t242)).setCell ⟨gb250, 1, none⟩ (.int .i64 t243)).setCell ⟨gb250, 2, none⟩ (.int .i64 t244)).setCell ⟨gb250, 3, none⟩ (.slice Ao45 t245.length co45)).setCell ⟨gb250, 4, none⟩ (.int .i64 t248)).heap[gb232]? = some (.cells #[.int .i64 t236, .int .i64 t237, .slice Ao27 t238.length co27] 35 (0, 0))) := ⟨by (with_reducible repeat (first | refine bn_ ?_ _ | refine bd_ ?_ | refine ba_ ?_ _)); refine blk_far ?_ NB232_250.out _; (with_reducible repeat (first | refine bn_ ?_ _ | refine bd_ ?_ | refine ba_ ?_ _)); refine blk_far ?_ NB232_250.out _; (with_reducible repeat (first | refine bn_ ?_ _ | refine bd_ ?_ | refine ba_ ?_ _)); refine blk_far ?_ NB232_250.out _; (with_reducible repeat (first | refine bn_ ?_ _ | refine bd_ ?_ | refine ba_ ?_ _)); refine blk_far ?_ NB232_250.out _; (with_reducible repeat (first | refine bn_ ?_ _ | refine bd_ ?_ | refine ba_ ?_ _)); refine blk_far ?_ NB232_250.out _; (with_reducible repeat (first | refine bn_ ?_ _ | refine bd_ ?_ | refine ba_ ?_ _)); exact BK232.out⟩
              have n4_ : Aside0 ((((((w42.setCell ⟨gb250, 0, none⟩ (.int .i64 t242)).setCell ⟨gb250, 1, none⟩ (.int .i64 t243)).setCell ⟨gb250, 2, none⟩ (.int .i64 t244)).setCell ⟨gb250, 3, none⟩ (.slice Ao45 t245.length co45)).setCell ⟨gb250, 4, none⟩ (.int .i64 t248)).heap[gb250]? = some (.cells #[.int .i64 t242, .int .i64 t243, .int .i64 t244, .slice Ao45 t245.length co45, .int .i64 t248] 30 (0, 0))) := ⟨by (with_reducible repeat (first | refine bn_ ?_ _ | refine bd_ ?_ | refine ba_ ?_ _)); refine blk_put (cs := #[.int .i64 t242, .int .i64 t243, .int .i64 t244, .slice Ao45 t245.length co45, .int .i64 0]) ?_ 4 _ rfl; (with_reducible repeat (first | refine bn_ ?_ _ | refine bd_ ?_ | refine ba_ ?_ _)); refine blk_put (cs := #[.int .i64 t242, .int .i64 t243, .int .i64 t244, .slice none 0 0, .int .i64 0]) ?_ 3 _ rfl; (with_reducible repeat (first | refine bn_ ?_ _ | refine bd_ ?_ | refine ba_ ?_ _)); refine blk_put (cs := #[.int .i64 t242, .int .i64 t243, .int .i64 0, .slice none 0 0, .int .i64 0]) ?_ 2 _ rfl; (with_reducible repeat (first | refine bn_ ?_ _ | refine bd_ ?_ | refine ba_ ?_ _)); refine blk_put (cs := #[.int .i64 t242, .int .i64 0, .int .i64 0, .slice none 0 0, .int .i64 0]) ?_ 1 _ rfl; (with_reducible repeat (first | refine bn_ ?_ _ | refine bd_ ?_ | refine ba_ ?_ _)); refine blk_put (cs := #[.int .i64 0, .int .i64 0, .int .i64 0, .slice none 0 0, .int .i64 0]) ?_ 0 _ rfl; (with_reducible repeat (first | refine bn_ ?_ _ | refine bd_ ?_ | refine ba_ ?_ _)); exact BK250.out⟩
              have n5_ : Aside0 (Below w.heap.size w (((((w42.setCell ⟨gb250, 0, none⟩ (.int .i64 t242)).setCell ⟨gb250, 1, none⟩ (.int .i64 t243)).setCell ⟨gb250, 2, none⟩ (.int .i64 t244)).setCell ⟨gb250, 3, none⟩ (.slice Ao45 t245.length co45)).setCell ⟨gb250, 4, none⟩ (.int .i64 t248))) := ⟨pb2_ HB.out GE232.out GE250.out⟩
              (try clear HO_1)
              (try clear HO_233002)
              (try clear HO247)
              (try clear BK232)
              (try clear BK250)
              (try clear HB)
              generalize (((((w42.setCell ⟨gb250, 0, none⟩ (.int .i64 t242)).setCell ⟨gb250, 1, none⟩ (.int .i64 t243)).setCell ⟨gb250, 2, none⟩ (.int .i64 t244)).setCell ⟨gb250, 3, none⟩ (.slice Ao45 t245.length co45)).setCell ⟨gb250, 4, none⟩ (.int .i64 t248)) = w46 at n0_ n1_ n2_ n3_ n4_ n5_ ⊢
              have HO_1 := n0_
              have HO_233002 := n1_
              have HO247 := n2_
              have BK232 := n3_
              have BK250 := n4_
              have HB := n5_
              clear n0_ n1_ n2_ n3_ n4_ n5_
              have n0_ := am_ (nd_ HO_1.out)
              have n1_ := am_ (nd_ HO_233002.out)
              have n2_ := am_ (nd_ HO247.out)
              have n3_ := am_ (bd_ BK232.out)
              have n4_ := am_ (bd_ BK250.out)
              have n5_ := am_ (b1_ HB.out)
              clear HO_1
              clear HO_233002
              clear HO247
              clear BK232
              clear BK250
              clear HB
              have HO_1 := n0_
              have HO_233002 := n1_
              have HO247 := n2_
              have BK232 := n3_
              have BK250 := n4_
              have HB := n5_
              clear n0_ n1_ n2_ n3_ n4_ n5_
              have p251 : 0 ≤ (1 : Int) := (by omega)
              have q251 : 1 < (y219.length : Int) := ot_ (by first | (with_reducible assumption) | assumption)
              obtain ⟨ad251, A251_2, c251_2, e251, hx251_0, hx251_1, hx251_2, hl251_2, hi251_2⟩ := at_T35 (Kd.N_reads' HO_1.out).2.2 1 p251 q251
              cases e251
              obtain ⟨ce251, hce251, hMe251, hcc251⟩ := Kd.N_get HO_1.out z35 1 p251 (by first | exact q251 | exact ot_ (by first | (with_reducible assumption) | assumption) | (have e_ := (Kd.N_reads' HO_1.out).1; omega))
              obtain ⟨ua251_2, uc251_2, rfl, ul251_2, ge251_2⟩ := k35_openF hMe251
              have hv251_2 := hcc251 2 _ rfl
              rw [add_field _ _ 2 (by omega)] at hv251_2
              replace hv251_2 := si_ (hv251_2.symm.trans hx251_2)
              injection hv251_2 with hva_ hvn_ hvc_
              rw [hva_] at ge251_2
              rw [hvc_] at ul251_2
              have HL251_2 := am_ (show Kd.V k87 87 _ w.heap.size _ _ ((rd_T35 y219 1).f2) from Kd.V_mk ul251_2 ge251_2)
              clear hva_ hvn_ hvc_ ge251_2 ul251_2
              clear hcc251 hce251
              (try simp only [show (1 : Int).toNat = 1 from rfl, Nat.reduceMul, Nat.reduceEqDiff, Go.Addr.add, ↓reduceIte] at hx251_0)
              (try simp only [show (1 : Int).toNat = 1 from rfl, Nat.reduceMul, Nat.reduceEqDiff, Go.Addr.add, ↓reduceIte] at hx251_1)
              (try simp only [show (1 : Int).toNat = 1 from rfl, Nat.reduceMul, Nat.reduceEqDiff, Go.Addr.add, ↓reduceIte] at hx251_2)
              have qi251 : (1 < y219.length) = True := eq_true (by omega)
              (try rw [show ((1 : Int)).toNat = 1 from rfl] at hx251_0)
              (try rw [show 1 * 3 = 3 from rfl] at hx251_0)
              (try rw [show ((1 : Int)).toNat = 1 from rfl] at hx251_1)
              (try rw [show 1 * 3 = 3 from rfl] at hx251_1)
              (try rw [show ((1 : Int)).toNat = 1 from rfl] at hx251_2)
              (try rw [show 1 * 3 = 3 from rfl] at hx251_2)
              have HR251_2 := am_ hi251_2
              have HC251_2 := am_ hl251_2
              clear hi251_2 hl251_2
              replace p251 := eq_true p251
              replace q251 := eq_true q251
              refine start_ (n := 13) (S := fun w' => w'.cell? ⟨gb250, 0, none⟩ = some (.int .i64 t242) ∧ w'.cell? ⟨gb250, 1, none⟩ = some (.int .i64 t243) ∧ w'.cell? ⟨gb250, 2, none⟩ = some (.int .i64 t244) ∧ w'.cell? ⟨gb250, 3, none⟩ = some (.slice Ao45 t245.length co45) ∧ w'.cell? ⟨gb250, 4, none⟩ = some (.int .i64 t248) ∧ w'.cell? ⟨ad251.block, ad251.off + 3, none⟩ = some (.int .i64 ((rd_T35 y219 1).f0)) ∧ w'.cell? ⟨ad251.block, ad251.off + 3 + 1, none⟩ = some (.int .i64 ((rd_T35 y219 1).f1)) ∧ w'.cell? ⟨ad251.block, ad251.off + 3 + 2, none⟩ = some (.slice A251_2 ((rd_T35 y219 1).f2).length c251_2)) (ds := []) #[false, false, false, false, false, false, false, false, false, false, false, false, false] (by kernel_rfl) rfl rfl ⟨(bc_ BK250.out 0).trans rfl, (bc_ BK250.out 1).trans rfl, (bc_ BK250.out 2).trans rfl, (bc_ BK250.out 3).trans rfl, (bc_ BK250.out 4).trans rfl, hx251_0, hx251_1, hx251_2⟩ (fun hHeld => ?_); refine with_tabW tapearchivelaw26_awake.tab9 tapearchivelaw26_awake.bits9 (fun HT_ HW_ => ?_)
              generalize w46.drew = w47 at HO_1 HO_233002 HO247 BK232 BK250 HB HL251_2 HR251_2 hx251_0 hx251_1 hx251_2 hHeld ⊢
              refine pure_ (i := 0) (N := some 50) (v := ?_) (a' := ?_) #[true, false, false, false, false, false, false, false, false, false, false, false, false] rfl rfl (any_of HT_.out (by kernel_rfl)) (fun _ _ _ h => h) (Or.inl ⟨by rfl, ?_⟩) ?_ ?_
              rotate_left
              ·
               intro w'
               go_simp
               with_reducible rfl
              rotate_left
              ·
               simp only [Act.put, lt1_, lt2_, lt3_, i64_w, i32_w]
               rfl
              refine pure_ (i := 1) (N := some 51) (v := ?_) (a' := ?_) #[true, true, false, false, false, false, false, false, false, false, false, false, false] rfl rfl (any_of HT_.out (by kernel_rfl)) (fun _ _ _ h => h) (Or.inl ⟨by rfl, ?_⟩) ?_ ?_
              rotate_left
              ·
               intro w'
               go_simp
               with_reducible rfl
              rotate_left
              ·
               simp only [Act.put, lt1_, lt2_, lt3_, i64_w, i32_w]
               rfl
              refine take_ (i := 2) (N := some 52) (v := ?_) (a' := ?_) #[true, true, true, false, false, false, false, false, false, false, false, false, false] rfl rfl (take_ofW HT_.out HW_.out (by kernel_rfl)) (fun _ _ _ h => h) (Or.inl ⟨by rfl, ?_⟩) hHeld ?_ ?_
              rotate_left
              ·
               rintro w' ⟨s0, s1, s2, s3, s4, s5, s6, s7⟩
               go_simp
               with_reducible rfl
              rotate_left
              ·
               simp only [Act.put, lt1_, lt2_, lt3_, i64_w, i32_w]
               rfl
              refine take_ (i := 3) (N := some 53) (v := ?_) (a' := ?_) #[true, true, true, true, false, false, false, false, false, false, false, false, false] rfl rfl (take_ofW HT_.out HW_.out (by kernel_rfl)) (fun _ _ _ h => h) (Or.inl ⟨by rfl, ?_⟩) hHeld ?_ ?_
              rotate_left
              ·
               rintro w' ⟨s0, s1, s2, s3, s4, s5, s6, s7⟩
               go_simp
               with_reducible rfl
              rotate_left
              ·
               simp only [Act.put, lt1_, lt2_, lt3_, i64_w, i32_w]
               rfl
              refine join_ (σ := Value × Nat) 3 #[true, true, true, true, true, true, true, true, true, true, false, false, false] (fun s_ => [(54, .tuple #[.agg #[.int .i64 t252, .int .i64 t253, s_.1], .int .i64 t257, .int .i64 t258]), (7, .pointer (some ⟨s_.2, 0, none⟩)), (49, .tuple #[.agg #[.int .i64 t252, .int .i64 t253, s_.1], .int .i64 t257, .int .i64 t258]), (55, .agg #[.int .i64 t252, .int .i64 t253, s_.1]), (56, .int .i64 t257), (57, .int .i64 t258)]) (fun s_ w' => (w'.cell? ⟨gb250, 0, none⟩ = some (.int .i64 t242) ∧ w'.cell? ⟨gb250, 1, none⟩ = some (.int .i64 t243) ∧ w'.cell? ⟨gb250, 2, none⟩ = some (.int .i64 t244) ∧ w'.cell? ⟨gb250, 3, none⟩ = some (.slice Ao45 t245.length co45) ∧ w'.cell? ⟨gb250, 4, none⟩ = some (.int .i64 t248) ∧ w'.cell? ⟨ad251.block, ad251.off + 3, none⟩ = some (.int .i64 ((rd_T35 y219 1).f0)) ∧ w'.cell? ⟨ad251.block, ad251.off + 3 + 1, none⟩ = some (.int .i64 ((rd_T35 y219 1).f1)) ∧ w'.cell? ⟨ad251.block, ad251.off + 3 + 2, none⟩ = some (.slice A251_2 ((rd_T35 y219 1).f2).length c251_2)) ∧ (Kd.V k87 87 w' w.heap.size (fun k_ => some k_ ≠ (.slice Ao45 t245.length co45 : Value).ownBlock ∧ some k_ ≠ (s_.1 : Value).ownBlock ∧ some k_ ≠ (.slice (some ad251) y219.length co8 : Value).ownBlock ∧ some k_ ≠ (.slice Ao27 t238.length co27 : Value).ownBlock ∧ k_ ≠ gb232 ∧ k_ ≠ gb250 ∧ k_ ≠ s_.2) (.slice A251_2 ((rd_T35 y219 1).f2).length c251_2) ((rd_T35 y219 1).f2)) ∧ (Kd.N k87 87 w' w.heap.size (fun k_ => some k_ ≠ (s_.1 : Value).ownBlock ∧ k_ ≠ gb232 ∧ k_ ≠ gb250 ∧ k_ ≠ s_.2) (.slice Ao45 t245.length co45) t245) ∧ (Kd.N k87 87 w' w.heap.size (fun k_ => k_ ≠ gb232 ∧ k_ ≠ gb250 ∧ k_ ≠ s_.2) s_.1 t254) ∧ (Kd.N k35 35 w' w.heap.size (fun k_ => some k_ ≠ (.slice Ao45 t245.length co45 : Value).ownBlock ∧ some k_ ≠ (s_.1 : Value).ownBlock ∧ some k_ ≠ (.slice Ao27 t238.length co27 : Value).ownBlock ∧ k_ ≠ gb232 ∧ k_ ≠ gb250 ∧ k_ ≠ s_.2) (.slice (some ad251) y219.length co8) y219) ∧ (Kd.N k87 87 w' w.heap.size (fun k_ => some k_ ≠ (.slice Ao45 t245.length co45 : Value).ownBlock ∧ some k_ ≠ (s_.1 : Value).ownBlock ∧ k_ ≠ gb232 ∧ k_ ≠ gb250 ∧ k_ ≠ s_.2) (.slice Ao27 t238.length co27) t238) ∧ (w'.heap[gb232]? = some (.cells #[.int .i64 t236, .int .i64 t237, .slice Ao27 t238.length co27] 35 (0, 0))) ∧ (w'.heap[gb250]? = some (.cells #[.int .i64 t242, .int .i64 t243, .int .i64 t244, .slice Ao45 t245.length co45, .int .i64 t248] 30 (0, 0))) ∧ (w'.heap[s_.2]? = some (.cells #[.int .i64 0, .int .i64 0, .slice none 0 0] 35 (0, 0))) ∧ (w.heap.size ≤ s_.2) ∧ (w.heap.size ≤ s_.2) ∧ (gb232 ≠ s_.2) ∧ (s_.2 ≠ gb232) ∧ (gb250 ≠ s_.2) ∧ (s_.2 ≠ gb250) ∧ (Below w.heap.size w w')) ?_ ?_
              rotate_left
              ·
               intro hCont
               refine two_ (i := 4) (j := 9) (Ni := some 54) (Nj := some 7) #[true, true, true, true, true, false, false, false, false, false, false, false, false] #[true, true, true, true, false, false, false, false, false, true, false, false, false] rfl rfl rfl rfl (two_of HT_.out (by kernel_rfl)) (by decide) (by decide) (fun K hK => ?_) (fun K hK => ?_)
               ·
                skip
                refine goes_ Try.func17 (by kernel_rfl) rfl #[.agg #[.int .i64 ((rd_T35 y219 1).f0), .int .i64 ((rd_T35 y219 1).f1), .slice A251_2 ((rd_T35 y219 1).f2).length c251_2], .agg #[.int .i64 t242, .int .i64 t243, .int .i64 t244, .slice Ao45 t245.length co45, .int .i64 t248]] (by rfl) rfl rfl au_ ?_
                with_reducible refine (replica_Accept.calls kj19 ((rd_T35 y219 1).f0) ((rd_T35 y219 1).f1) (fun k_ => ((some k_ ≠ (.slice Ao27 t238.length co27 : Value).ownBlock ∧ (some k_ ≠ (.slice Ao45 t245.length co45 : Value).ownBlock ∧ (k_ ≠ gb232 ∧ k_ ≠ gb250))) ∧ some k_ ≠ (.slice (some ad251) y219.length co8 : Value).ownBlock)) _ _ ((rd_T35 y219 1).f2) t242 t243 t244 (fun k_ => (k_ ≠ gb232 ∧ k_ ≠ gb250)) _ _ t245 t248 t252 t253 t254 t257 t258 _ ?side1 ?side2 A33.out).mono ?_
                (case side1 => exact HL251_2.out)
                (case side2 => exact Kd.N_V (HO247.out))
                rintro e w48 ⟨v255, rfl, ho0, hb⟩
                have HS5_ := (hb.cell (bk_ _ _ (hHeld.2.2.2.2.2.1))).trans (hHeld.2.2.2.2.2.1)
                have HS6_ := (hb.cell (bk_ _ _ (hHeld.2.2.2.2.2.2.1))).trans (hHeld.2.2.2.2.2.2.1)
                have HS7_ := (hb.cell (bk_ _ _ (hHeld.2.2.2.2.2.2.2))).trans (hHeld.2.2.2.2.2.2.2)
                refine ⟨_, rfl, ?_⟩
                have n0_ := am_ (Kd.N_elder' (pN_ HO_1.out) (Kd.N_base ho0) hb)
                have n1_ := am_ (Kd.N_elder' (pN_ HO_233002.out) (Kd.N_base ho0) hb)
                have n2_ := am_ (Kd.N_elder' (pN_ HO247.out) (Kd.N_base ho0) hb)
                have n3_ := am_ (Kd.V_elder' (pV_ HL251_2.out) (Kd.N_base ho0) hb)
                have n4_ := am_ (nl_ (nm_ (ok' := fun k_ => k_ ≠ gb232 ∧ k_ ≠ gb250) ho0 (fun k_ hk_ => ⟨Or.elim hk_ (fun hs_ => Or.elim hs_ (fun hs_ => hs_.1.2.2.1) (fun hs_ => hs_.1)) (fun hn_ => (fb_ (g := gb232) (o := .cells #[.int .i64 t236, .int .i64 t237, .slice Ao27 t238.length co27] 35 (0, 0)) (pk_ BK232.out) k_ hn_)), Or.elim hk_ (fun hs_ => Or.elim hs_ (fun hs_ => hs_.1.2.2.2) (fun hs_ => hs_.2)) (fun hn_ => (fb_ (g := gb250) (o := .cells #[.int .i64 t242, .int .i64 t243, .int .i64 t244, .slice Ao45 t245.length co45, .int .i64 t248] 30 (0, 0)) (pk_ BK250.out) k_ hn_))⟩)) (bz_ (pb2_ HB.out GE232.out GE250.out)))
                have n5_ := am_ (bw_ (g := gb232) (o := .cells #[.int .i64 t236, .int .i64 t237, .slice Ao27 t238.length co27] 35 (0, 0)) (pk_ BK232.out) hb)
                have n6_ := am_ (bw_ (g := gb250) (o := .cells #[.int .i64 t242, .int .i64 t243, .int .i64 t244, .slice Ao45 t245.length co45, .int .i64 t248] 30 (0, 0)) (pk_ BK250.out) hb)
                have n7_ := am_ (Kd.C_below (by repeat (first | (with_reducible exact HR251_2.out) | (with_reducible refine Kd.C_alloc ?_ _) | (with_reducible refine Kd.C_drewN ?_ _) | (with_reducible refine Kd.C_drew ?_) | exact HR251_2.out)) hb)
                have n8_ := am_ (sp_ (pb2_ HB.out GE232.out GE250.out) hb)
                clear HO_1
                clear HO_233002
                clear HO247
                clear HL251_2
                clear BK232
                clear BK250
                clear HR251_2
                clear HB
                have HO_1 := n0_
                have HO_233002 := n1_
                have HO247 := n2_
                have HL251_2 := n3_
                have HO256 := n4_
                have BK232 := n5_
                have BK250 := n6_
                have HR251_2 := n7_
                have HB := n8_
                clear n0_ n1_ n2_ n3_ n4_ n5_ n6_ n7_ n8_
                (try clear hb)
                (try clear hb2)
                (try clear hk)
                (try clear hi)
                (try clear ho0)
                refine hK.out _ _ ⟨(bc_ BK250.out 0).trans rfl, (bc_ BK250.out 1).trans rfl, (bc_ BK250.out 2).trans rfl, (bc_ BK250.out 3).trans rfl, (bc_ BK250.out 4).trans rfl, HS5_, HS6_, HS7_⟩ (fun hHeld => ?_)
                clear hK K
                refine norm_ (a' := ?_) ?_ ?_
                rotate_left
                ·
                 show Act.put _ (some 54) _ = _
                 simp only [Act.put, lt1_, lt2_, lt3_, i64_w, i32_w]
                 rfl
                refine pure_ (i := 5) (N := some 49) (v := ?_) (a' := ?_) #[true, true, true, true, true, true, false, false, false, false, false, false, false] rfl rfl (any_of HT_.out (by kernel_rfl)) (fun _ _ _ h => h) (Or.inl ⟨by rfl, ?_⟩) ?_ ?_
                rotate_left
                ·
                 intro w'
                 go_simp
                 with_reducible rfl
                rotate_left
                ·
                 simp only [Act.put, lt1_, lt2_, lt3_, i64_w, i32_w]
                 rfl
                refine pure_ (i := 6) (N := some 55) (v := ?_) (a' := ?_) #[true, true, true, true, true, true, true, false, false, false, false, false, false] rfl rfl (any_of HT_.out (by kernel_rfl)) (fun _ _ _ h => h) (Or.inl ⟨by rfl, ?_⟩) ?_ ?_
                rotate_left
                ·
                 intro w'
                 go_simp
                 with_reducible rfl
                rotate_left
                ·
                 simp only [Act.put, lt1_, lt2_, lt3_, i64_w, i32_w]
                 rfl
                refine pure_ (i := 7) (N := some 56) (v := ?_) (a' := ?_) #[true, true, true, true, true, true, true, true, false, false, false, false, false] rfl rfl (any_of HT_.out (by kernel_rfl)) (fun _ _ _ h => h) (Or.inl ⟨by rfl, ?_⟩) ?_ ?_
                rotate_left
                ·
                 intro w'
                 go_simp
                 with_reducible rfl
                rotate_left
                ·
                 simp only [Act.put, lt1_, lt2_, lt3_, i64_w, i32_w]
                 rfl
                refine pure_ (i := 8) (N := some 57) (v := ?_) (a' := ?_) #[true, true, true, true, true, true, true, true, true, false, false, false, false] rfl rfl (any_of HT_.out (by kernel_rfl)) (fun _ _ _ h => h) (Or.inl ⟨by rfl, ?_⟩) ?_ ?_
                rotate_left
                ·
                 intro w'
                 go_simp
                 with_reducible rfl
                rotate_left
                ·
                 simp only [Act.put, lt1_, lt2_, lt3_, i64_w, i32_w]
                 rfl
                refine one_ (i := 9) (N := some 7) #[true, true, true, true, true, true, true, true, true, true, false, false, false] rfl rfl (one_of HT_.out (by kernel_rfl)) (by decide) (fun K hK => ?_)
                refine box_step ?hg (N := 7) ?hd (cs := #[.int .i64 0, .int .i64 0, .slice none 0 0]) (t := 35) ?hr ?_; (case hd => rfl); (case hg => rfl); (case hr => first | (go_simp; done) | (go_simp; rfl))
                intro gb259 hg w49 hbox hb
                have HS5_ := (hb.cell (bk_ _ _ (hHeld.2.2.2.2.2.1))).trans (hHeld.2.2.2.2.2.1)
                have HS6_ := (hb.cell (bk_ _ _ (hHeld.2.2.2.2.2.2.1))).trans (hHeld.2.2.2.2.2.2.1)
                have HS7_ := (hb.cell (bk_ _ _ (hHeld.2.2.2.2.2.2.2))).trans (hHeld.2.2.2.2.2.2.2)
                have n0_ := am_ (nb_ (Kd.N_elderB (pN_ HO_1.out) gb259 (le_ hg.symm)) hb)
                have n1_ := am_ (nb_ (Kd.N_elderB (pN_ HO_233002.out) gb259 (le_ hg.symm)) hb)
                have n2_ := am_ (nb_ (Kd.N_elderB (pN_ HO247.out) gb259 (le_ hg.symm)) hb)
                have n3_ := am_ (vb_ (Kd.V_elderB (pV_ HL251_2.out) gb259 (le_ hg.symm)) hb)
                have n4_ := am_ (nb_ (Kd.N_elderB (pN_ HO256.out) gb259 (le_ hg.symm)) hb)
                have n5_ := am_ (bw_ (g := gb232) (o := .cells #[.int .i64 t236, .int .i64 t237, .slice Ao27 t238.length co27] 35 (0, 0)) (pk_ BK232.out) hb)
                have n6_ := am_ (bw_ (g := gb250) (o := .cells #[.int .i64 t242, .int .i64 t243, .int .i64 t244, .slice Ao45 t245.length co45, .int .i64 t248] 30 (0, 0)) (pk_ BK250.out) hb)
                have n7_ := am_ (Kd.C_below (by repeat (first | (with_reducible exact HR251_2.out) | (with_reducible refine Kd.C_alloc ?_ _) | (with_reducible refine Kd.C_drewN ?_ _) | (with_reducible refine Kd.C_drew ?_) | exact HR251_2.out)) hb)
                have n8_ := am_ (sp_ (pb2_ HB.out GE232.out GE250.out) hb)
                have n9_ := am_ (hbox)
                have n10_ := am_ ((by rw [hg]; exact (bz_ (pb2_ HB.out GE232.out GE250.out)) : w.heap.size ≤ gb259))
                have n11_ := am_ ((by rw [hg]; exact (bz_ (pb2_ HB.out GE232.out GE250.out)) : w.heap.size ≤ gb259))
                have n12_ := am_ ((by rw [hg]; exact Nat.ne_of_lt (blk_lt (g := gb232) (o := .cells #[.int .i64 t236, .int .i64 t237, .slice Ao27 t238.length co27] 35 (0, 0)) (pk_ BK232.out)) : gb232 ≠ gb259))
                have n13_ := am_ ((by rw [hg]; exact Nat.ne_of_gt (blk_lt (g := gb232) (o := .cells #[.int .i64 t236, .int .i64 t237, .slice Ao27 t238.length co27] 35 (0, 0)) (pk_ BK232.out)) : gb259 ≠ gb232))
                have n14_ := am_ ((by rw [hg]; exact Nat.ne_of_lt (blk_lt (g := gb250) (o := .cells #[.int .i64 t242, .int .i64 t243, .int .i64 t244, .slice Ao45 t245.length co45, .int .i64 t248] 30 (0, 0)) (pk_ BK250.out)) : gb250 ≠ gb259))
                have n15_ := am_ ((by rw [hg]; exact Nat.ne_of_gt (blk_lt (g := gb250) (o := .cells #[.int .i64 t242, .int .i64 t243, .int .i64 t244, .slice Ao45 t245.length co45, .int .i64 t248] 30 (0, 0)) (pk_ BK250.out)) : gb259 ≠ gb250))
                clear HO_1
                clear HO_233002
                clear HO247
                clear HL251_2
                clear HO256
                clear BK232
                clear BK250
                clear HR251_2
                clear HB
                have HO_1 := n0_
                have HO_233002 := n1_
                have HO247 := n2_
                have HL251_2 := n3_
                have HO256 := n4_
                have BK232 := n5_
                have BK250 := n6_
                have HR251_2 := n7_
                have HB := n8_
                have BK259 := n9_
                have GW259 := n10_
                have GE259 := n11_
                have NB232_259 := n12_
                have NB259_232 := n13_
                have NB250_259 := n14_
                have NB259_250 := n15_
                clear n0_ n1_ n2_ n3_ n4_ n5_ n6_ n7_ n8_ n9_ n10_ n11_ n12_ n13_ n14_ n15_
                clear hb hbox hg
                refine hK.out _ _ ⟨(bc_ BK250.out 0).trans rfl, (bc_ BK250.out 1).trans rfl, (bc_ BK250.out 2).trans rfl, (bc_ BK250.out 3).trans rfl, (bc_ BK250.out 4).trans rfl, HS5_, HS6_, HS7_⟩ (fun hHeld => ?_)
                clear hK K
                refine norm_ (a' := ?_) ?_ ?_
                rotate_left
                ·
                 show Act.put _ (some 7) _ = _
                 simp only [Act.put, lt1_, lt2_, lt3_, i64_w, i32_w]
                 rfl
                exact norm_ (by simp only [putAll, Act.put, lt1_, lt2_, lt3_]) (hCont (v255, gb259) _ ⟨hHeld, (by (with_reducible repeat (first | apply va_ | apply vn_ | apply vd_)); exact vm_ HL251_2.out (fun _ hk => ⟨hk.1.1.1.2.1, ⟨hk.1.2, ⟨hk.1.1.2, ⟨hk.1.1.1.1, ⟨hk.1.1.1.2.2.1, ⟨hk.1.1.1.2.2.2, hk.2⟩⟩⟩⟩⟩⟩)), (by (with_reducible repeat (first | apply na_ | apply nn_ | apply nd_)); exact nm_ HO247.out (fun _ hk => ⟨hk.1.2, ⟨hk.1.1.1, ⟨hk.1.1.2, hk.2⟩⟩⟩)), (by (with_reducible repeat (first | apply na_ | apply nn_ | apply nd_)); exact nm_ HO256.out (fun _ hk => ⟨hk.1.1, ⟨hk.1.2, hk.2⟩⟩)), (by (with_reducible repeat (first | apply na_ | apply nn_ | apply nd_)); exact nm_ HO_1.out (fun _ hk => ⟨hk.1.1.2.1, ⟨hk.1.2, ⟨hk.1.1.1, ⟨hk.1.1.2.2.1, ⟨hk.1.1.2.2.2, hk.2⟩⟩⟩⟩⟩)), (by (with_reducible repeat (first | apply na_ | apply nn_ | apply nd_)); exact nm_ HO_233002.out (fun _ hk => ⟨hk.1.1.1, ⟨hk.1.2, ⟨hk.1.1.2.1, ⟨hk.1.1.2.2, hk.2⟩⟩⟩⟩)), (pk_ BK232.out), (pk_ BK250.out), (pk_ BK259.out), GW259.out, GE259.out, NB232_259.out, NB259_232.out, NB250_259.out, NB259_250.out, (pb3_ HB.out GE232.out GE250.out GE259.out)⟩)
               ·
                skip
                refine box_step ?hg (N := 7) ?hd (cs := #[.int .i64 0, .int .i64 0, .slice none 0 0]) (t := 35) ?hr ?_; (case hd => rfl); (case hg => rfl); (case hr => first | (go_simp; done) | (go_simp; rfl))
                intro gb259 hg w48 hbox hb
                have HS5_ := (hb.cell (bk_ _ _ (hHeld.2.2.2.2.2.1))).trans (hHeld.2.2.2.2.2.1)
                have HS6_ := (hb.cell (bk_ _ _ (hHeld.2.2.2.2.2.2.1))).trans (hHeld.2.2.2.2.2.2.1)
                have HS7_ := (hb.cell (bk_ _ _ (hHeld.2.2.2.2.2.2.2))).trans (hHeld.2.2.2.2.2.2.2)
                have n0_ := am_ (nb_ (Kd.N_elderB (pN_ HO_1.out) gb259 (le_ hg.symm)) hb)
                have n1_ := am_ (nb_ (Kd.N_elderB (pN_ HO_233002.out) gb259 (le_ hg.symm)) hb)
                have n2_ := am_ (nb_ (Kd.N_elderB (pN_ HO247.out) gb259 (le_ hg.symm)) hb)
                have n3_ := am_ (vb_ (Kd.V_elderB (pV_ HL251_2.out) gb259 (le_ hg.symm)) hb)
                have n4_ := am_ (bw_ (g := gb232) (o := .cells #[.int .i64 t236, .int .i64 t237, .slice Ao27 t238.length co27] 35 (0, 0)) (pk_ BK232.out) hb)
                have n5_ := am_ (bw_ (g := gb250) (o := .cells #[.int .i64 t242, .int .i64 t243, .int .i64 t244, .slice Ao45 t245.length co45, .int .i64 t248] 30 (0, 0)) (pk_ BK250.out) hb)
                have n6_ := am_ (Kd.C_below (by repeat (first | (with_reducible exact HR251_2.out) | (with_reducible refine Kd.C_alloc ?_ _) | (with_reducible refine Kd.C_drewN ?_ _) | (with_reducible refine Kd.C_drew ?_) | exact HR251_2.out)) hb)
                have n7_ := am_ (sp_ (pb2_ HB.out GE232.out GE250.out) hb)
                have n8_ := am_ (hbox)
                have n9_ := am_ ((by rw [hg]; exact (bz_ (pb2_ HB.out GE232.out GE250.out)) : w.heap.size ≤ gb259))
                have n10_ := am_ ((by rw [hg]; exact (bz_ (pb2_ HB.out GE232.out GE250.out)) : w.heap.size ≤ gb259))
                have n11_ := am_ ((by rw [hg]; exact Nat.ne_of_lt (blk_lt (g := gb232) (o := .cells #[.int .i64 t236, .int .i64 t237, .slice Ao27 t238.length co27] 35 (0, 0)) (pk_ BK232.out)) : gb232 ≠ gb259))
                have n12_ := am_ ((by rw [hg]; exact Nat.ne_of_gt (blk_lt (g := gb232) (o := .cells #[.int .i64 t236, .int .i64 t237, .slice Ao27 t238.length co27] 35 (0, 0)) (pk_ BK232.out)) : gb259 ≠ gb232))
                have n13_ := am_ ((by rw [hg]; exact Nat.ne_of_lt (blk_lt (g := gb250) (o := .cells #[.int .i64 t242, .int .i64 t243, .int .i64 t244, .slice Ao45 t245.length co45, .int .i64 t248] 30 (0, 0)) (pk_ BK250.out)) : gb250 ≠ gb259))
                have n14_ := am_ ((by rw [hg]; exact Nat.ne_of_gt (blk_lt (g := gb250) (o := .cells #[.int .i64 t242, .int .i64 t243, .int .i64 t244, .slice Ao45 t245.length co45, .int .i64 t248] 30 (0, 0)) (pk_ BK250.out)) : gb259 ≠ gb250))
                clear HO_1
                clear HO_233002
                clear HO247
                clear HL251_2
                clear BK232
                clear BK250
                clear HR251_2
                clear HB
                have HO_1 := n0_
                have HO_233002 := n1_
                have HO247 := n2_
                have HL251_2 := n3_
                have BK232 := n4_
                have BK250 := n5_
                have HR251_2 := n6_
                have HB := n7_
                have BK259 := n8_
                have GW259 := n9_
                have GE259 := n10_
                have NB232_259 := n11_
                have NB259_232 := n12_
                have NB250_259 := n13_
                have NB259_250 := n14_
                clear n0_ n1_ n2_ n3_ n4_ n5_ n6_ n7_ n8_ n9_ n10_ n11_ n12_ n13_ n14_
                clear hb hbox hg
                refine hK.out _ _ ⟨(bc_ BK250.out 0).trans rfl, (bc_ BK250.out 1).trans rfl, (bc_ BK250.out 2).trans rfl, (bc_ BK250.out 3).trans rfl, (bc_ BK250.out 4).trans rfl, HS5_, HS6_, HS7_⟩ (fun hHeld => ?_)
                clear hK K
                refine norm_ (a' := ?_) ?_ ?_
                rotate_left
                ·
                 show Act.put _ (some 7) _ = _
                 simp only [Act.put, lt1_, lt2_, lt3_, i64_w, i32_w]
                 rfl
                refine one_ (i := 4) (N := some 54) #[true, true, true, true, true, false, false, false, false, true, false, false, false] rfl rfl (one_of HT_.out (by kernel_rfl)) (by decide) (fun K hK => ?_)
                refine goes_ Try.func17 (by kernel_rfl) rfl #[.agg #[.int .i64 ((rd_T35 y219 1).f0), .int .i64 ((rd_T35 y219 1).f1), .slice A251_2 ((rd_T35 y219 1).f2).length c251_2], .agg #[.int .i64 t242, .int .i64 t243, .int .i64 t244, .slice Ao45 t245.length co45, .int .i64 t248]] (by rfl) rfl rfl au_ ?_
                with_reducible refine (replica_Accept.calls kj19 ((rd_T35 y219 1).f0) ((rd_T35 y219 1).f1) (fun k_ => (((some k_ ≠ (.slice Ao27 t238.length co27 : Value).ownBlock ∧ (some k_ ≠ (.slice Ao45 t245.length co45 : Value).ownBlock ∧ (k_ ≠ gb232 ∧ k_ ≠ gb250))) ∧ some k_ ≠ (.slice (some ad251) y219.length co8 : Value).ownBlock) ∧ k_ ≠ gb259)) _ _ ((rd_T35 y219 1).f2) t242 t243 t244 (fun k_ => ((k_ ≠ gb232 ∧ k_ ≠ gb250) ∧ k_ ≠ gb259)) _ _ t245 t248 t252 t253 t254 t257 t258 _ ?side1 ?side2 A33.out).mono ?_
                (case side1 => exact HL251_2.out)
                (case side2 => exact Kd.N_V (HO247.out))
                rintro e w49 ⟨v255, rfl, ho0, hb⟩
                have HS5_ := (hb.cell (bk_ _ _ (hHeld.2.2.2.2.2.1))).trans (hHeld.2.2.2.2.2.1)
                have HS6_ := (hb.cell (bk_ _ _ (hHeld.2.2.2.2.2.2.1))).trans (hHeld.2.2.2.2.2.2.1)
                have HS7_ := (hb.cell (bk_ _ _ (hHeld.2.2.2.2.2.2.2))).trans (hHeld.2.2.2.2.2.2.2)
                refine ⟨_, rfl, ?_⟩
                have n0_ := am_ (Kd.N_elder' (pN_ HO_1.out) (Kd.N_base ho0) hb)
                have n1_ := am_ (Kd.N_elder' (pN_ HO_233002.out) (Kd.N_base ho0) hb)
                have n2_ := am_ (Kd.N_elder' (pN_ HO247.out) (Kd.N_base ho0) hb)
                have n3_ := am_ (Kd.V_elder' (pV_ HL251_2.out) (Kd.N_base ho0) hb)
                have n4_ := am_ (nl_ (nm_ (ok' := fun k_ => k_ ≠ gb232 ∧ k_ ≠ gb250 ∧ k_ ≠ gb259) ho0 (fun k_ hk_ => ⟨Or.elim hk_ (fun hs_ => Or.elim hs_ (fun hs_ => hs_.1.1.2.2.1) (fun hs_ => hs_.1.1)) (fun hn_ => (fb_ (g := gb232) (o := .cells #[.int .i64 t236, .int .i64 t237, .slice Ao27 t238.length co27] 35 (0, 0)) (pk_ BK232.out) k_ hn_)), Or.elim hk_ (fun hs_ => Or.elim hs_ (fun hs_ => hs_.1.1.2.2.2) (fun hs_ => hs_.1.2)) (fun hn_ => (fb_ (g := gb250) (o := .cells #[.int .i64 t242, .int .i64 t243, .int .i64 t244, .slice Ao45 t245.length co45, .int .i64 t248] 30 (0, 0)) (pk_ BK250.out) k_ hn_)), Or.elim hk_ (fun hs_ => Or.elim hs_ (fun hs_ => hs_.2) (fun hs_ => hs_.2)) (fun hn_ => (fb_ (g := gb259) (o := .cells #[.int .i64 0, .int .i64 0, .slice none 0 0] 35 (0, 0)) (pk_ BK259.out) k_ hn_))⟩)) (bz_ (pb3_ HB.out GE232.out GE250.out GE259.out)))
                have n5_ := am_ (bw_ (g := gb232) (o := .cells #[.int .i64 t236, .int .i64 t237, .slice Ao27 t238.length co27] 35 (0, 0)) (pk_ BK232.out) hb)
                have n6_ := am_ (bw_ (g := gb250) (o := .cells #[.int .i64 t242, .int .i64 t243, .int .i64 t244, .slice Ao45 t245.length co45, .int .i64 t248] 30 (0, 0)) (pk_ BK250.out) hb)
                have n7_ := am_ (Kd.C_below (by repeat (first | (with_reducible exact HR251_2.out) | (with_reducible refine Kd.C_alloc ?_ _) | (with_reducible refine Kd.C_drewN ?_ _) | (with_reducible refine Kd.C_drew ?_) | exact HR251_2.out)) hb)
                have n8_ := am_ (bw_ (g := gb259) (o := .cells #[.int .i64 0, .int .i64 0, .slice none 0 0] 35 (0, 0)) (pk_ BK259.out) hb)
                have n9_ := am_ (sp_ (pb3_ HB.out GE232.out GE250.out GE259.out) hb)
                clear HO_1
                clear HO_233002
                clear HO247
                clear HL251_2
                clear BK232
                clear BK250
                clear HR251_2
                clear BK259
                clear HB
                have HO_1 := n0_
                have HO_233002 := n1_
                have HO247 := n2_
                have HL251_2 := n3_
                have HO256 := n4_
                have BK232 := n5_
                have BK250 := n6_
                have HR251_2 := n7_
                have BK259 := n8_
                have HB := n9_
                clear n0_ n1_ n2_ n3_ n4_ n5_ n6_ n7_ n8_ n9_
                (try clear hb)
                (try clear hb2)
                (try clear hk)
                (try clear hi)
                (try clear ho0)
                refine hK.out _ _ ⟨(bc_ BK250.out 0).trans rfl, (bc_ BK250.out 1).trans rfl, (bc_ BK250.out 2).trans rfl, (bc_ BK250.out 3).trans rfl, (bc_ BK250.out 4).trans rfl, HS5_, HS6_, HS7_⟩ (fun hHeld => ?_)
                clear hK K
                refine norm_ (a' := ?_) ?_ ?_
                rotate_left
                ·
                 show Act.put _ (some 54) _ = _
                 simp only [Act.put, lt1_, lt2_, lt3_, i64_w, i32_w]
                 rfl
                refine pure_ (i := 5) (N := some 49) (v := ?_) (a' := ?_) #[true, true, true, true, true, true, false, false, false, true, false, false, false] rfl rfl (any_of HT_.out (by kernel_rfl)) (fun _ _ _ h => h) (Or.inl ⟨by rfl, ?_⟩) ?_ ?_
                rotate_left
                ·
                 intro w'
                 go_simp
                 with_reducible rfl
                rotate_left
                ·
                 simp only [Act.put, lt1_, lt2_, lt3_, i64_w, i32_w]
                 rfl
                refine pure_ (i := 6) (N := some 55) (v := ?_) (a' := ?_) #[true, true, true, true, true, true, true, false, false, true, false, false, false] rfl rfl (any_of HT_.out (by kernel_rfl)) (fun _ _ _ h => h) (Or.inl ⟨by rfl, ?_⟩) ?_ ?_
                rotate_left
                ·
                 intro w'
                 go_simp
                 with_reducible rfl
                rotate_left
                ·
                 simp only [Act.put, lt1_, lt2_, lt3_, i64_w, i32_w]
                 rfl
                refine pure_ (i := 7) (N := some 56) (v := ?_) (a' := ?_) #[true, true, true, true, true, true, true, true, false, true, false, false, false] rfl rfl (any_of HT_.out (by kernel_rfl)) (fun _ _ _ h => h) (Or.inl ⟨by rfl, ?_⟩) ?_ ?_
                rotate_left
                ·
                 intro w'
                 go_simp
                 with_reducible rfl
                rotate_left
                ·
                 simp only [Act.put, lt1_, lt2_, lt3_, i64_w, i32_w]
                 rfl
                refine pure_ (i := 8) (N := some 57) (v := ?_) (a' := ?_) #[true, true, true, true, true, true, true, true, true, true, false, false, false] rfl rfl (any_of HT_.out (by kernel_rfl)) (fun _ _ _ h => h) (Or.inl ⟨by rfl, ?_⟩) ?_ ?_
                rotate_left
                ·
                 intro w'
                 go_simp
                 with_reducible rfl
                rotate_left
                ·
                 simp only [Act.put, lt1_, lt2_, lt3_, i64_w, i32_w]
                 rfl
                exact norm_ (by simp only [putAll, Act.put, lt1_, lt2_, lt3_]) (hCont (v255, gb259) _ ⟨hHeld, (by (with_reducible repeat (first | apply va_ | apply vn_ | apply vd_)); exact vm_ HL251_2.out (fun _ hk => ⟨hk.1.1.1.2.1, ⟨hk.2, ⟨hk.1.1.2, ⟨hk.1.1.1.1, ⟨hk.1.1.1.2.2.1, ⟨hk.1.1.1.2.2.2, hk.1.2⟩⟩⟩⟩⟩⟩)), (by (with_reducible repeat (first | apply na_ | apply nn_ | apply nd_)); exact nm_ HO247.out (fun _ hk => ⟨hk.2, ⟨hk.1.1.1, ⟨hk.1.1.2, hk.1.2⟩⟩⟩)), (pN_ HO256.out), (by (with_reducible repeat (first | apply na_ | apply nn_ | apply nd_)); exact nm_ HO_1.out (fun _ hk => ⟨hk.1.1.2.1, ⟨hk.2, ⟨hk.1.1.1, ⟨hk.1.1.2.2.1, ⟨hk.1.1.2.2.2, hk.1.2⟩⟩⟩⟩⟩)), (by (with_reducible repeat (first | apply na_ | apply nn_ | apply nd_)); exact nm_ HO_233002.out (fun _ hk => ⟨hk.1.1.1, ⟨hk.2, ⟨hk.1.1.2.1, ⟨hk.1.1.2.2, hk.1.2⟩⟩⟩⟩)), (pk_ BK232.out), (pk_ BK250.out), (pk_ BK259.out), GW259.out, GE259.out, NB232_259.out, NB259_232.out, NB250_259.out, NB259_250.out, (pb3_ HB.out GE232.out GE250.out GE259.out)⟩)
              rintro ⟨v255, gb259⟩ w50 ⟨hS_, h0_, h1_, h2_, h3_, h4_, h5_, h6_, h7_, h8_, h9_, h10_, h11_, h12_, h13_, h14_⟩
              have n0_ : Aside0 (Kd.V k87 87 w50 w.heap.size (fun k_ => some k_ ≠ (.slice Ao45 t245.length co45 : Value).ownBlock ∧ some k_ ≠ (v255 : Value).ownBlock ∧ some k_ ≠ (.slice (some ad251) y219.length co8 : Value).ownBlock ∧ some k_ ≠ (.slice Ao27 t238.length co27 : Value).ownBlock ∧ k_ ≠ gb232 ∧ k_ ≠ gb250 ∧ k_ ≠ gb259) (.slice A251_2 ((rd_T35 y219 1).f2).length c251_2) ((rd_T35 y219 1).f2)) := ⟨h0_⟩
              have n1_ : Aside0 (Kd.N k87 87 w50 w.heap.size (fun k_ => some k_ ≠ (v255 : Value).ownBlock ∧ k_ ≠ gb232 ∧ k_ ≠ gb250 ∧ k_ ≠ gb259) (.slice Ao45 t245.length co45) t245) := ⟨h1_⟩
              have n2_ : Aside0 (Kd.N k87 87 w50 w.heap.size (fun k_ => k_ ≠ gb232 ∧ k_ ≠ gb250 ∧ k_ ≠ gb259) v255 t254) := ⟨h2_⟩
              have n3_ : Aside0 (Kd.N k35 35 w50 w.heap.size (fun k_ => some k_ ≠ (.slice Ao45 t245.length co45 : Value).ownBlock ∧ some k_ ≠ (v255 : Value).ownBlock ∧ some k_ ≠ (.slice Ao27 t238.length co27 : Value).ownBlock ∧ k_ ≠ gb232 ∧ k_ ≠ gb250 ∧ k_ ≠ gb259) (.slice (some ad251) y219.length co8) y219) := ⟨h3_⟩
              have n4_ : Aside0 (Kd.N k87 87 w50 w.heap.size (fun k_ => some k_ ≠ (.slice Ao45 t245.length co45 : Value).ownBlock ∧ some k_ ≠ (v255 : Value).ownBlock ∧ k_ ≠ gb232 ∧ k_ ≠ gb250 ∧ k_ ≠ gb259) (.slice Ao27 t238.length co27) t238) := ⟨h4_⟩
              have n5_ : Aside0 (w50.heap[gb232]? = some (.cells #[.int .i64 t236, .int .i64 t237, .slice Ao27 t238.length co27] 35 (0, 0))) := ⟨h5_⟩
              have n6_ : Aside0 (w50.heap[gb250]? = some (.cells #[.int .i64 t242, .int .i64 t243, .int .i64 t244, .slice Ao45 t245.length co45, .int .i64 t248] 30 (0, 0))) := ⟨h6_⟩
              have n7_ : Aside0 (w50.heap[gb259]? = some (.cells #[.int .i64 0, .int .i64 0, .slice none 0 0] 35 (0, 0))) := ⟨h7_⟩
              have n8_ : Aside0 (w.heap.size ≤ gb259) := ⟨h8_⟩
              have n9_ : Aside0 (w.heap.size ≤ gb259) := ⟨h9_⟩
              have n10_ : Aside0 (gb232 ≠ gb259) := ⟨h10_⟩
              have n11_ : Aside0 (gb259 ≠ gb232) := ⟨h11_⟩
              have n12_ : Aside0 (gb250 ≠ gb259) := ⟨h12_⟩
              have n13_ : Aside0 (gb259 ≠ gb250) := ⟨h13_⟩
              have n14_ : Aside0 (Below w.heap.size w w50) := ⟨h14_⟩
              clear HO_1
              clear HO_233002
              clear HO247
              clear BK232
              clear BK250
              clear HB
              clear h0_ h1_ h2_ h3_ h4_ h5_ h6_ h7_ h8_ h9_ h10_ h11_ h12_ h13_ h14_
              have HL251_2 := n0_
              have HO247 := n1_
              have HO256 := n2_
              have HO_1 := n3_
              have HO_233002 := n4_
              have BK232 := n5_
              have BK250 := n6_
              have BK259 := n7_
              have GW259 := n8_
              have GE259 := n9_
              have NB232_259 := n10_
              have NB259_232 := n11_
              have NB250_259 := n12_
              have NB259_250 := n13_
              have HB := n14_
              clear n0_ n1_ n2_ n3_ n4_ n5_ n6_ n7_ n8_ n9_ n10_ n11_ n12_ n13_ n14_
              have hHeld : w50.cell? ⟨gb250, 0, none⟩ = some (.int .i64 t242) ∧ w50.cell? ⟨gb250, 1, none⟩ = some (.int .i64 t243) ∧ w50.cell? ⟨gb250, 2, none⟩ = some (.int .i64 t244) ∧ w50.cell? ⟨gb250, 3, none⟩ = some (.slice Ao45 t245.length co45) ∧ w50.cell? ⟨gb250, 4, none⟩ = some (.int .i64 t248) ∧ w50.cell? ⟨ad251.block, ad251.off + 3, none⟩ = some (.int .i64 ((rd_T35 y219 1).f0)) ∧ w50.cell? ⟨ad251.block, ad251.off + 3 + 1, none⟩ = some (.int .i64 ((rd_T35 y219 1).f1)) ∧ w50.cell? ⟨ad251.block, ad251.off + 3 + 2, none⟩ = some (.slice A251_2 ((rd_T35 y219 1).f2).length c251_2) := hS_
              obtain ⟨Ao53, co53, eo53⟩ := Kd.N_slice HO256.out
              (first | subst eo53 | (injection eo53 with f1_ f2_ f3_; have f4_ := f1_.symm; have f5_ := f3_.symm; clear f1_ f2_ f3_; subst f4_; subst f5_))
              refine norm_ (a' := ?_) ?_ ?_
              rotate_left
              ·
               simp only [putAll, Act.put, lt1_, lt2_, lt3_]
               rfl
              refine one_ (i := 10) (N := none) #[true, true, true, true, true, true, true, true, true, true, true, false, false] rfl rfl (one_of HT_.out (by kernel_rfl)) (by decide) (fun K hK => ?_)
              have hs51 : w50.cell? ⟨gb259, 0, none⟩ = some (.int .i64 0) := (bc_ BK259.out 0).trans rfl
              have hfs51 := bf_ BK259.out 0
              have hns51_0 := NB232_259.out
              have hns51_1 := NB250_259.out
              have hms51_0 := NB259_232.out
              have hms51_1 := NB259_250.out
              have hs52 : w50.cell? ⟨gb259, 1, none⟩ = some (.int .i64 0) := (bc_ BK259.out 1).trans rfl
              have hfs52 := bf_ BK259.out 1
              have hns52_0 := NB232_259.out
              have hns52_1 := NB250_259.out
              have hms52_0 := NB259_232.out
              have hms52_1 := NB259_250.out
              have hs54 : w50.cell? ⟨gb259, 2, none⟩ = some (.slice none 0 0) := (bc_ BK259.out 2).trans rfl
              have hfs54 := bf_ BK259.out 2
              have hns54_0 := NB232_259.out
              have hns54_1 := NB250_259.out
              have hms54_0 := NB259_232.out
              have hms54_1 := NB259_250.out
              refine skip_ (w1 := ?_) (by rfl) rfl ?_ ?_
              rotate_left
              ·
               go_simp
               rfl
              refine hK.out _ _ ⟨((cell_far (p := ⟨gb259, _, none⟩) NB250_259.out _).trans (((cell_far (p := ⟨gb259, _, none⟩) NB250_259.out _).trans (((cell_far (p := ⟨gb259, _, none⟩) NB250_259.out _).trans (hHeld.1)))))), ((cell_far (p := ⟨gb259, _, none⟩) NB250_259.out _).trans (((cell_far (p := ⟨gb259, _, none⟩) NB250_259.out _).trans (((cell_far (p := ⟨gb259, _, none⟩) NB250_259.out _).trans (hHeld.2.1)))))), ((cell_far (p := ⟨gb259, _, none⟩) NB250_259.out _).trans (((cell_far (p := ⟨gb259, _, none⟩) NB250_259.out _).trans (((cell_far (p := ⟨gb259, _, none⟩) NB250_259.out _).trans (hHeld.2.2.1)))))), ((cell_far (p := ⟨gb259, _, none⟩) NB250_259.out _).trans (((cell_far (p := ⟨gb259, _, none⟩) NB250_259.out _).trans (((cell_far (p := ⟨gb259, _, none⟩) NB250_259.out _).trans (hHeld.2.2.2.1)))))), ((cell_far (p := ⟨gb259, _, none⟩) NB250_259.out _).trans (((cell_far (p := ⟨gb259, _, none⟩) NB250_259.out _).trans (((cell_far (p := ⟨gb259, _, none⟩) NB250_259.out _).trans (hHeld.2.2.2.2.1)))))), ((cell_far (p := ⟨gb259, _, none⟩) (by first | exact Kd.own_blk (Kd.N_away HO_1.out (fun _ hk => hk.2.2.2.2.2)) | (rw [add_block]; exact Kd.own_blk (Kd.N_away HO_1.out (fun _ hk => hk.2.2.2.2.2))) | (show (Addr.add _ _).block ≠ _; rw [add_block]; exact Kd.own_blk (Kd.N_away HO_1.out (fun _ hk => hk.2.2.2.2.2))) | (dsimp only; exact Kd.own_blk (Kd.N_away HO_1.out (fun _ hk => hk.2.2.2.2.2)))) _).trans (((cell_far (p := ⟨gb259, _, none⟩) (by first | exact Kd.own_blk (Kd.N_away HO_1.out (fun _ hk => hk.2.2.2.2.2)) | (rw [add_block]; exact Kd.own_blk (Kd.N_away HO_1.out (fun _ hk => hk.2.2.2.2.2))) | (show (Addr.add _ _).block ≠ _; rw [add_block]; exact Kd.own_blk (Kd.N_away HO_1.out (fun _ hk => hk.2.2.2.2.2))) | (dsimp only; exact Kd.own_blk (Kd.N_away HO_1.out (fun _ hk => hk.2.2.2.2.2)))) _).trans (((cell_far (p := ⟨gb259, _, none⟩) (by first | exact Kd.own_blk (Kd.N_away HO_1.out (fun _ hk => hk.2.2.2.2.2)) | (rw [add_block]; exact Kd.own_blk (Kd.N_away HO_1.out (fun _ hk => hk.2.2.2.2.2))) | (show (Addr.add _ _).block ≠ _; rw [add_block]; exact Kd.own_blk (Kd.N_away HO_1.out (fun _ hk => hk.2.2.2.2.2))) | (dsimp only; exact Kd.own_blk (Kd.N_away HO_1.out (fun _ hk => hk.2.2.2.2.2)))) _).trans (hHeld.2.2.2.2.2.1)))))), ((cell_far (p := ⟨gb259, _, none⟩) (by first | exact Kd.own_blk (Kd.N_away HO_1.out (fun _ hk => hk.2.2.2.2.2)) | (rw [add_block]; exact Kd.own_blk (Kd.N_away HO_1.out (fun _ hk => hk.2.2.2.2.2))) | (show (Addr.add _ _).block ≠ _; rw [add_block]; exact Kd.own_blk (Kd.N_away HO_1.out (fun _ hk => hk.2.2.2.2.2))) | (dsimp only; exact Kd.own_blk (Kd.N_away HO_1.out (fun _ hk => hk.2.2.2.2.2)))) _).trans (((cell_far (p := ⟨gb259, _, none⟩) (by first | exact Kd.own_blk (Kd.N_away HO_1.out (fun _ hk => hk.2.2.2.2.2)) | (rw [add_block]; exact Kd.own_blk (Kd.N_away HO_1.out (fun _ hk => hk.2.2.2.2.2))) | (show (Addr.add _ _).block ≠ _; rw [add_block]; exact Kd.own_blk (Kd.N_away HO_1.out (fun _ hk => hk.2.2.2.2.2))) | (dsimp only; exact Kd.own_blk (Kd.N_away HO_1.out (fun _ hk => hk.2.2.2.2.2)))) _).trans (((cell_far (p := ⟨gb259, _, none⟩) (by first | exact Kd.own_blk (Kd.N_away HO_1.out (fun _ hk => hk.2.2.2.2.2)) | (rw [add_block]; exact Kd.own_blk (Kd.N_away HO_1.out (fun _ hk => hk.2.2.2.2.2))) | (show (Addr.add _ _).block ≠ _; rw [add_block]; exact Kd.own_blk (Kd.N_away HO_1.out (fun _ hk => hk.2.2.2.2.2))) | (dsimp only; exact Kd.own_blk (Kd.N_away HO_1.out (fun _ hk => hk.2.2.2.2.2)))) _).trans (hHeld.2.2.2.2.2.2.1)))))), ((cell_far (p := ⟨gb259, _, none⟩) (by first | exact Kd.own_blk (Kd.N_away HO_1.out (fun _ hk => hk.2.2.2.2.2)) | (rw [add_block]; exact Kd.own_blk (Kd.N_away HO_1.out (fun _ hk => hk.2.2.2.2.2))) | (show (Addr.add _ _).block ≠ _; rw [add_block]; exact Kd.own_blk (Kd.N_away HO_1.out (fun _ hk => hk.2.2.2.2.2))) | (dsimp only; exact Kd.own_blk (Kd.N_away HO_1.out (fun _ hk => hk.2.2.2.2.2)))) _).trans (((cell_far (p := ⟨gb259, _, none⟩) (by first | exact Kd.own_blk (Kd.N_away HO_1.out (fun _ hk => hk.2.2.2.2.2)) | (rw [add_block]; exact Kd.own_blk (Kd.N_away HO_1.out (fun _ hk => hk.2.2.2.2.2))) | (show (Addr.add _ _).block ≠ _; rw [add_block]; exact Kd.own_blk (Kd.N_away HO_1.out (fun _ hk => hk.2.2.2.2.2))) | (dsimp only; exact Kd.own_blk (Kd.N_away HO_1.out (fun _ hk => hk.2.2.2.2.2)))) _).trans (((cell_far (p := ⟨gb259, _, none⟩) (by first | exact Kd.own_blk (Kd.N_away HO_1.out (fun _ hk => hk.2.2.2.2.2)) | (rw [add_block]; exact Kd.own_blk (Kd.N_away HO_1.out (fun _ hk => hk.2.2.2.2.2))) | (show (Addr.add _ _).block ≠ _; rw [add_block]; exact Kd.own_blk (Kd.N_away HO_1.out (fun _ hk => hk.2.2.2.2.2))) | (dsimp only; exact Kd.own_blk (Kd.N_away HO_1.out (fun _ hk => hk.2.2.2.2.2)))) _).trans (hHeld.2.2.2.2.2.2.2))))))⟩ (fun hHeld => ?_)
              clear hK K
              refine pure_ (i := 11) (N := some 8) (v := ?_) (a' := ?_) #[true, true, true, true, true, true, true, true, true, true, true, true, false] rfl rfl (any_of HT_.out (by kernel_rfl)) (fun _ _ _ h => h) (Or.inl ⟨by rfl, ?_⟩) ?_ ?_
              rotate_left
              ·
               intro w'
               go_simp
               with_reducible rfl
              rotate_left
              ·
               simp only [Act.put, lt1_, lt2_, lt3_, i64_w, i32_w]
               rfl
              refine pure_ (i := 12) (N := some 9) (v := ?_) (a' := ?_) #[true, true, true, true, true, true, true, true, true, true, true, true, true] rfl rfl (any_of HT_.out (by kernel_rfl)) (fun _ _ _ h => h) (Or.inl ⟨by rfl, ?_⟩) ?_ ?_
              rotate_left
              ·
               intro w'
               go_simp
               with_reducible rfl
              rotate_left
              ·
               simp only [Act.put, lt1_, lt2_, lt3_, i64_w, i32_w]
               rfl
              refine done_ (done_of HT_.out (by kernel_rfl)) ?_
              have hnb55 := NB259_232.out
              have hnc55 := NB232_259.out
              have hnb56 := NB259_250.out
              have hnc56 := NB250_259.out
              have hcz57_0 : w50.cell? ⟨gb259, 0, none⟩ = some (.int .i64 0) := (bc_ BK259.out 0).trans rfl
              have hcz57_1 : w50.cell? ⟨gb259, 1, none⟩ = some (.int .i64 0) := (bc_ BK259.out 1).trans rfl
              have hcz57_2 : w50.cell? ⟨gb259, 2, none⟩ = some (.slice none 0 0) := (bc_ BK259.out 2).trans rfl
              have hfz57_0 := bf_ BK259.out 0
              have hfz57_1 := bf_ BK259.out 1
              have hfz57_2 := bf_ BK259.out 2
              have hcz58_0 : w50.cell? ⟨gb232, 0, none⟩ = some (.int .i64 t236) := (bc_ BK232.out 0).trans rfl
              have hcz58_1 : w50.cell? ⟨gb232, 1, none⟩ = some (.int .i64 t237) := (bc_ BK232.out 1).trans rfl
              have hcz58_2 : w50.cell? ⟨gb232, 2, none⟩ = some (.slice Ao27 t238.length co27) := (bc_ BK232.out 2).trans rfl
              have hfz58_0 := bf_ BK232.out 0
              have hfz58_1 := bf_ BK232.out 1
              have hfz58_2 := bf_ BK232.out 2
              try go_wp2_with (first | ((with_reducible refine gate_dst (N := 81) rfl ?_); (try (refine gate_guard (by rfl) ?_; dsimp only)); refine Kd.R_lit (Kd.int .i64) _ 3 ?hg (N := 81) ?hd (xs := ([1, 1, 0] : List Int)) (inner := [.int .i64 1, .int .i64 1, .int .i64 0]) (ok := fun _ => True) (okp := fun _ => True) ?hr ?hp (fun _ hk => hk) trivial (Below.refl _ _) (Nat.le_refl _) (by simp) ?_; (case hd => rfl); (case hg => rfl); (case hr => first | (go_simp; done) | (go_simp; rfl)); (case hp => exact (Reps.one (show Kd.M (Kd.int .i64) _ _ _ 1 [.int .i64 1] from rfl) (Reps.one (show Kd.M (Kd.int .i64) _ _ _ 1 [.int .i64 1] from rfl) (Reps.one (show Kd.M (Kd.int .i64) _ _ _ 0 [.int .i64 0] from rfl) (Reps.none _ _))))); intro v261 w59 ho60 hb hg_ hnew_; clear hg_ hnew_; (first | rw [← Ny260.out] at ho60 | (simp only [Int.reduceToNat] at ho60; rw [← Ny260.out] at ho60)); have n0_ := am_ (Kd.N_elder' (by (with_reducible repeat (first | apply na_ | apply nn_ | apply nd_)); exact (nm_ (nf_ (p := ⟨gb259, 2, none⟩) (nf_ (p := ⟨gb259, 1, none⟩) (nf_ (p := ⟨gb259, 0, none⟩) (nm_ HO_1.out (fun k_ hk => (⟨hk, hk.2.2.2.2.2⟩ : _ ∧ k_ ≠ gb259))) (fun _ hk => hk.2) (.int .i64 t252)) (fun _ hk => hk.2) (.int .i64 t253)) (fun _ hk => hk.2) (.slice Ao53 t254.length co53)) (fun _ h_ => h_.1))) (Kd.R_base ho60) hb); have n1_ := am_ (Kd.N_elder' (by (with_reducible repeat (first | apply na_ | apply nn_ | apply nd_)); exact (nm_ (nf_ (p := ⟨gb259, 2, none⟩) (nf_ (p := ⟨gb259, 1, none⟩) (nf_ (p := ⟨gb259, 0, none⟩) (nm_ HO_233002.out (fun k_ hk => (⟨hk, hk.2.2.2.2⟩ : _ ∧ k_ ≠ gb259))) (fun _ hk => hk.2) (.int .i64 t252)) (fun _ hk => hk.2) (.int .i64 t253)) (fun _ hk => hk.2) (.slice Ao53 t254.length co53)) (fun _ h_ => h_.1))) (Kd.R_base ho60) hb); have n2_ := am_ (Kd.N_elder' (by (with_reducible repeat (first | apply na_ | apply nn_ | apply nd_)); exact (nm_ (nf_ (p := ⟨gb259, 2, none⟩) (nf_ (p := ⟨gb259, 1, none⟩) (nf_ (p := ⟨gb259, 0, none⟩) (nm_ HO247.out (fun k_ hk => (⟨hk, hk.2.2.2⟩ : _ ∧ k_ ≠ gb259))) (fun _ hk => hk.2) (.int .i64 t252)) (fun _ hk => hk.2) (.int .i64 t253)) (fun _ hk => hk.2) (.slice Ao53 t254.length co53)) (fun _ h_ => h_.1))) (Kd.R_base ho60) hb); have n3_ := am_ (Kd.V_elder' (by (with_reducible repeat (first | apply va_ | apply vn_ | apply vd_)); exact (vm_ (Kd.V_far (p := ⟨gb259, 2, none⟩) (Kd.V_far (p := ⟨gb259, 1, none⟩) (Kd.V_far (p := ⟨gb259, 0, none⟩) (vm_ HL251_2.out (fun k_ hk => (⟨hk, hk.2.2.2.2.2.2⟩ : _ ∧ k_ ≠ gb259))) (fun _ hk => hk.2) (.int .i64 t252)) (fun _ hk => hk.2) (.int .i64 t253)) (fun _ hk => hk.2) (.slice Ao53 t254.length co53)) (fun _ h_ => h_.1))) (Kd.R_base ho60) hb); have n4_ := am_ (Kd.N_elder' (by (with_reducible repeat (first | apply na_ | apply nn_ | apply nd_)); exact (nm_ (nf_ (p := ⟨gb259, 2, none⟩) (nf_ (p := ⟨gb259, 1, none⟩) (nf_ (p := ⟨gb259, 0, none⟩) (nm_ HO256.out (fun k_ hk => (⟨hk, hk.2.2⟩ : _ ∧ k_ ≠ gb259))) (fun _ hk => hk.2) (.int .i64 t252)) (fun _ hk => hk.2) (.int .i64 t253)) (fun _ hk => hk.2) (.slice Ao53 t254.length co53)) (fun _ h_ => h_.1))) (Kd.R_base ho60) hb); have n5_ := am_ (Kd.R_lower ho60 (bz_ (pb3_ HB.out GE232.out GE250.out GE259.out))); have n6_ := am_ (bw_ (g := gb232) (o := .cells #[.int .i64 t236, .int .i64 t237, .slice Ao27 t238.length co27] 35 (0, 0)) (by (with_reducible repeat (first | refine bn_ ?_ _ | refine bd_ ?_ | refine ba_ ?_ _)); refine blk_far ?_ NB232_259.out _; (with_reducible repeat (first | refine bn_ ?_ _ | refine bd_ ?_ | refine ba_ ?_ _)); refine blk_far ?_ NB232_259.out _; (with_reducible repeat (first | refine bn_ ?_ _ | refine bd_ ?_ | refine ba_ ?_ _)); refine blk_far ?_ NB232_259.out _; (with_reducible repeat (first | refine bn_ ?_ _ | refine bd_ ?_ | refine ba_ ?_ _)); exact BK232.out) hb); have n7_ := am_ (bw_ (g := gb250) (o := .cells #[.int .i64 t242, .int .i64 t243, .int .i64 t244, .slice Ao45 t245.length co45, .int .i64 t248] 30 (0, 0)) (by (with_reducible repeat (first | refine bn_ ?_ _ | refine bd_ ?_ | refine ba_ ?_ _)); refine blk_far ?_ NB250_259.out _; (with_reducible repeat (first | refine bn_ ?_ _ | refine bd_ ?_ | refine ba_ ?_ _)); refine blk_far ?_ NB250_259.out _; (with_reducible repeat (first | refine bn_ ?_ _ | refine bd_ ?_ | refine ba_ ?_ _)); refine blk_far ?_ NB250_259.out _; (with_reducible repeat (first | refine bn_ ?_ _ | refine bd_ ?_ | refine ba_ ?_ _)); exact BK250.out) hb); have n8_ := am_ (bw_ (g := gb259) (o := .cells #[.int .i64 t252, .int .i64 t253, .slice Ao53 t254.length co53] 35 (0, 0)) (by (with_reducible repeat (first | refine bn_ ?_ _ | refine bd_ ?_ | refine ba_ ?_ _)); refine blk_put (cs := #[.int .i64 t252, .int .i64 t253, .slice none 0 0]) ?_ 2 _ rfl; (with_reducible repeat (first | refine bn_ ?_ _ | refine bd_ ?_ | refine ba_ ?_ _)); refine blk_put (cs := #[.int .i64 t252, .int .i64 0, .slice none 0 0]) ?_ 1 _ rfl; (with_reducible repeat (first | refine bn_ ?_ _ | refine bd_ ?_ | refine ba_ ?_ _)); refine blk_put (cs := #[.int .i64 0, .int .i64 0, .slice none 0 0]) ?_ 0 _ rfl; (with_reducible repeat (first | refine bn_ ?_ _ | refine bd_ ?_ | refine ba_ ?_ _)); exact BK259.out) hb); have n9_ := am_ (sp_ (pb3_ HB.out GE232.out GE250.out GE259.out) hb); clear HO_1; clear HO_233002; clear HO247; clear HL251_2; clear HO256; clear BK232; clear BK250; clear BK259; clear HB; have HO_1 := n0_; have HO_233002 := n1_; have HO247 := n2_; have HL251_2 := n3_; have HO256 := n4_; have HO262 := n5_; have BK232 := n6_; have BK250 := n7_; have BK259 := n8_; have HB := n9_; clear n0_ n1_ n2_ n3_ n4_ n5_ n6_ n7_ n8_ n9_; clear hb ho60; obtain ⟨Ao61, co61, eo61⟩ := Kd.R_slice HO262.out; subst eo61) | (go_at_call 23; (with_reducible refine (replica_Committed.calls kj19 t236 t237 _ _ t238 _ _ y260 t263 _ ?side1 ?side2 ?side3 ?side4 A39.out).mono ?_); (case side1 => repeat (first | exact (Kd.N_reads' HO_233002.out).2.2 | (with_reducible refine Kd.C_alloc ?_ _) | (with_reducible refine Kd.C_drewN ?_ _) | (with_reducible refine Kd.C_drew ?_))); (case side2 => exact (Kd.N_reads' HO_233002.out).2.1); (case side3 => repeat (first | exact (Kd.R_reads' HO262.out).2.2 | (with_reducible refine Kd.C_alloc ?_ _) | (with_reducible refine Kd.C_drewN ?_ _) | (with_reducible refine Kd.C_drew ?_))); (case side4 => exact (Kd.R_reads' HO262.out).2.1); rintro e w62 ⟨rfl, hb⟩; have n0_ := am_ (nb_ (pN_ HO_1.out) hb); have n1_ := am_ (nb_ (pN_ HO_233002.out) hb); have n2_ := am_ (nb_ (pN_ HO247.out) hb); have n3_ := am_ (vb_ (pV_ HL251_2.out) hb); have n4_ := am_ (nb_ (pN_ HO256.out) hb); have n5_ := am_ (Kd.R_below (pR_ HO262.out) hb); have n6_ := am_ (bw_ (g := gb232) (o := .cells #[.int .i64 t236, .int .i64 t237, .slice Ao27 t238.length co27] 35 (0, 0)) (pk_ BK232.out) hb); have n7_ := am_ (bw_ (g := gb250) (o := .cells #[.int .i64 t242, .int .i64 t243, .int .i64 t244, .slice Ao45 t245.length co45, .int .i64 t248] 30 (0, 0)) (pk_ BK250.out) hb); have n8_ := am_ (bw_ (g := gb259) (o := .cells #[.int .i64 t252, .int .i64 t253, .slice Ao53 t254.length co53] 35 (0, 0)) (pk_ BK259.out) hb); have n9_ := am_ (sp_ (pb3_ HB.out GE232.out GE250.out GE259.out) hb); clear HO_1; clear HO_233002; clear HO247; clear HL251_2; clear HO256; clear HO262; clear BK232; clear BK250; clear BK259; clear HB; have HO_1 := n0_; have HO_233002 := n1_; have HO247 := n2_; have HL251_2 := n3_; have HO256 := n4_; have HO262 := n5_; have BK232 := n6_; have BK250 := n7_; have BK259 := n8_; have HB := n9_; clear n0_ n1_ n2_ n3_ n4_ n5_ n6_ n7_ n8_ n9_; (try clear hb); (try clear hb2); (try clear hk); (try clear hi)))
              go_ret
              exact ⟨by first | rfl | (simp [errW_none, errW_some] <;> rfl) | (simp [*, errW_none, errW_some] <;> rfl), pb3_ HB.out GE232.out GE250.out GE259.out⟩
             ·
              rw [if_neg c38] at H
              have c38b0 : (t252 == 1) = false := beq_eq_false_iff_ne.mpr c38
              have c38b1 : (t252 != 1) = true := bne_iff_ne.mpr c38
              exact absurd ((si_ H).trans HRT.out) Bool.false_ne_true
            ·
             rw [if_neg c37] at H
             have c37b0 : ((t254.length : Int) == 1) = false := beq_eq_false_iff_ne.mpr c37
             have c37b1 : ((t254.length : Int) != 1) = true := bne_iff_ne.mpr c37
             exact absurd ((si_ H).trans HRT.out) Bool.false_ne_true
           ·
            rw [if_neg c36] at H
            have c36b0 : (t257 == 1) = false := beq_eq_false_iff_ne.mpr c36
            have c36b1 : (t257 != 1) = true := bne_iff_ne.mpr c36
            exact absurd ((si_ H).trans HRT.out) Bool.false_ne_true
          ·
           rw [if_neg c35] at H
           have c35b0 : (t258 == 0) = false := beq_eq_false_iff_ne.mpr c35
           have c35b1 : (t258 != 0) = true := bne_iff_ne.mpr c35
           exact absurd ((si_ H).trans HRT.out) Bool.false_ne_true
         ·
          rw [if_neg c34] at H
          have c34b0 : (t249 == 0) = false := beq_eq_false_iff_ne.mpr c34
          have c34b1 : (t249 != 0) = true := bne_iff_ne.mpr c34
          exact absurd ((si_ H).trans HRT.out) Bool.false_ne_true
        ·
         rw [if_neg c32] at H
         exact absurd H (by simp)
 ·
  rw [if_neg c1] at H
  exact absurd H (by simp)
end Go.Proofs.Ytbigcpjlahkggaa.Q
