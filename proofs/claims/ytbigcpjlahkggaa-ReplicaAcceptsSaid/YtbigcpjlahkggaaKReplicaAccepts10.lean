import Derived.Test.YtbigcpjlahkggaaKReplicaAccepts9
set_option linter.unusedVariables false
set_option linter.unusedSimpArgs false
section
namespace Go.Proofs.Ytbigcpjlahkggaa.Q
open Go.RowKit Go.Proofs.YtbigcpjlahkggaaW.PrintWords Go.Proofs.YtbigcpjlahkggaaW.PrintLast Go.Proofs.YtbigcpjlahkggaaW.PrintMore
attribute [local go_sem] max2_int min2_int max_two min_two max_three min_three max_four min_four
attribute [local go_sem ↓] isSome_setCell
attribute [local go_sem] string_gtr
set_option linter.unusedVariables false
set_option linter.unusedSimpArgs false
def tapearchivelaw26_records.l0 : Nat → List (S79) → List (S87) → Int → Option ((List (S87)))
 | 0, _, _, _ => none
 | k + 1, x0, x3, x4 => if x4 < (x0.length : Int) then (if 0 ≤ x4 then ((some (([] : List Int) : List Int)).bind fun y265 => (if y265.length + ((rd_T79 x0 x4).f1).length < 140737488355328 then (if x3.length < 4398046511104 then (tapearchivelaw26_records.l0 k x0 (x3 ++ [(⟨(rd_T79 x0 x4).f0, (y265 ++ ((rd_T79 x0 x4).f1))⟩ : S87)]) (wrap64 (x4 + 1))) else (none)) else (none))) else (none)) else (some x3)
def tapearchivelaw26_records.f (k : Nat) (l0 : List (S79)) : Option ((List (S87))) := tapearchivelaw26_records.l0 k l0 ([] : List (S87)) 0
def tapearchivelaw26_records.T5 : Bool × List (List Nat × List Nat) := (true, [([], []), ([], []), ([], []), ([1, 2], [1, 2]), ([3], [3]), ([4], [4]), ([], []), ([], []), ([], []), ([7, 8], [7, 8]), ([9], [9]), ([10], [10]), ([6, 11], [6, 11]), ([5, 12], [5, 12]), ([13], [13]), ([0, 14, 12], [0, 14]), ([15, 15, 0, 1, 2, 3, 4, 5, 6, 7, 8, 9, 10, 11, 12, 13, 14, 15], [0, 15])])
def tapearchivelaw26_records.B5 : List Nat := [0, 0, 0, 6, 14, 30, 0, 0, 0, 384, 896, 1920, 4032, 8190, 16382, 32767, 65535]
theorem tapearchivelaw26_records.tab5 : rtab .any (opsOf Try.f30 5) = tapearchivelaw26_records.T5 := by kernel_rfl
theorem tapearchivelaw26_records.bits5 : waitsOk tapearchivelaw26_records.T5.2 tapearchivelaw26_records.B5 = true := by kernel_rfl
set_option maxHeartbeats 8000000 in
set_option maxRecDepth 100000 in
theorem tapearchivelaw26_records.calls (k : Nat) (A0 : Option Addr) (c0 : Nat) (l0 : List (S79)) (r : List (S87)) (w : World) (hr0 : Kd.C k79 w A0 l0.length l0) (hc0 : l0.length ≤ c0) (h : tapearchivelaw26_records.f k l0 = some r) :
  Calls Try.prog 30 #[.slice A0 l0.length c0] w fun e w' => ∃ v0_ : Value, e = .returned (v0_) ∧ Kd.S k87 87 w' w.heap.size (fun _ => True) v0_ r ∧ Below w.heap.size w w' := by
 have hu87 := Try.underlying87; have HR0 := am_ hr0; have HC0 := am_ hc0; clear hr0 hc0; have HB := am_ (Below.refl w.heap.size w); have H : (tapearchivelaw26_records.l0 k l0 ([] : List (S87)) 0) = some r := h; clear h; have H' := am_ H; clear H; go_enter Try.func30, Try.ntmps30; go_wp2
 go_loopg [3, 4] k (fun kq v3 v4 w' => ∃ (x3_1 : List (S87)) (x4_1 : Int), v4 = .int .i64 x4_1 ∧ Aside0 (tapearchivelaw26_records.l0 kq l0 x3_1 x4_1 = some r) ∧ Aside0 (kq ≤ k) ∧ Aside0 (Kd.S k87 87 w' w.heap.size (fun _ => True) v3 x3_1) ∧ Aside0 (Below w.heap.size w w'))
 case atStart => exact ⟨(([] : List (S87))), (0), (by first | rfl | (simp; done) | (simp [*]; done)), H', ⟨Nat.le_refl _⟩, ⟨by first | exact Kd.S_nil _ _ _ _ _ | exact Kd.N_nil _ _ _ _ _ | exact Kd.V_nil _ _ _ _ _ | exact Kd.Q_nil _ _ _ _ _ | exact Kd.R_nil _ _ _ _ _⟩, ⟨pb0_ HB.out⟩⟩
 case round =>
  clear H'; obtain ⟨x3_1, x4_1, rfl, HA, HK1, HO_3, HB⟩ := hrel; cases gk with
  | zero => exact absurd HA.out (by simp [tapearchivelaw26_records.l0])
  | succ k1 =>
   have H := HA.out; clear HA; simp only [tapearchivelaw26_records.l0] at H
   by_cases c2 : x4_1 < (l0.length : Int)
   ·
    rw [if_pos c2] at H; have c2b0 : decide (x4_1 < (l0.length : Int)) = true := de_ c2; clear c2
    by_cases c3 : 0 ≤ x4_1
    ·
     rw [if_pos c3] at H; have c3b0 : decide (0 ≤ x4_1) = true := de_ c3; clear c3; obtain ⟨y265, hy265⟩ : ∃ y_ : List Int, y_ = (([] : List Int)) := ⟨_, rfl⟩; replace H : (if y265.length + ((rd_T79 l0 x4_1).f1).length < 140737488355328 then (if x3_1.length < 4398046511104 then (tapearchivelaw26_records.l0 k1 l0 (x3_1 ++ [(⟨(rd_T79 l0 x4_1).f0, (y265 ++ ((rd_T79 l0 x4_1).f1))⟩ : S87)]) (wrap64 (x4_1 + 1))) else (none)) else (none)) = some r := by first | (rw [hy265]; with_reducible exact H) | (have H2_ := (Option.bind_some _ _).symm.trans H; rw [hy265]; with_reducible exact H2_) | (have H2_ := (Option.bind_some _ _).symm.trans H; with_reducible exact H2_) | with_reducible exact H | (rw [hy265]; exact H) | exact H
     have Ny265 := am_ hy265; clear hy265
     by_cases c4 : y265.length + ((rd_T79 l0 x4_1).f1).length < 140737488355328
     ·
      rw [if_pos c4] at H; have LMc4 := am_ c4; clear c4; obtain ⟨y269, hy269⟩ : ∃ y_ : List Int, y_ = (y265 ++ ((rd_T79 l0 x4_1).f1)) := ⟨_, rfl⟩; replace H : (if x3_1.length < 4398046511104 then (tapearchivelaw26_records.l0 k1 l0 (x3_1 ++ [(⟨(rd_T79 l0 x4_1).f0, y269⟩ : S87)]) (wrap64 (x4_1 + 1))) else (none)) = some r := by first | (rw [hy269]; with_reducible exact H) | (have H2_ := (Option.bind_some _ _).symm.trans H; rw [hy269]; with_reducible exact H2_) | (have H2_ := (Option.bind_some _ _).symm.trans H; with_reducible exact H2_) | with_reducible exact H | (rw [hy269]; exact H) | exact H
      have Ny269 := am_ hy269; clear hy269
      by_cases c5 : x3_1.length < 4398046511104
      ·
       rw [if_pos c5] at H; have LMc5 := am_ c5; clear c5; obtain ⟨y272, hy272⟩ : ∃ y_ : List (S87), y_ = (x3_1 ++ [(⟨(rd_T79 l0 x4_1).f0, y269⟩ : S87)]) := ⟨_, rfl⟩; replace H : (tapearchivelaw26_records.l0 k1 l0 y272 (wrap64 (x4_1 + 1))) = some r := by first | (rw [hy272]; with_reducible exact H) | (have H2_ := (Option.bind_some _ _).symm.trans H; rw [hy272]; with_reducible exact H2_) | (have H2_ := (Option.bind_some _ _).symm.trans H; with_reducible exact H2_) | with_reducible exact H | (rw [hy272]; exact H) | exact H
       have Ny272 := am_ hy272; clear hy272; have H' := am_ H; clear H
       try go_wp2
       have n0_ := am_ (Kd.S_drew HO_3.out); have n1_ := am_ (b1_ HB.out); clear HO_3; clear HB; have HO_3 := n0_; have HB := n1_; clear n0_ n1_; have p264 : 0 ≤ (x4_1 : Int) := ot_ (by first | (with_reducible assumption) | assumption); have q264 : x4_1 < (l0.length : Int) := ot_ (by first | (with_reducible assumption) | assumption); obtain ⟨ad264, A264_1, c264_1, e264, hx264_0, hx264_1, hl264_1, hi264_1⟩ := at_T79 HR0.out x4_1 p264 q264; have hw264_1 := hx264_1; have hw264_0 := hx264_0; cases e264; replace hx264_0 := (HB.out.cell (bk_ w _ hx264_0)).trans hx264_0; replace hx264_1 := (HB.out.cell (bk_ w _ hx264_1)).trans hx264_1; have HR264_1 := am_ hi264_1; have HC264_1 := am_ hl264_1; clear hi264_1 hl264_1; replace p264 := eq_true p264; replace q264 := eq_true q264; have p268 : 0 ≤ (x4_1 : Int) := ot_ (by first | (with_reducible assumption) | assumption); have q268 : x4_1 < (l0.length : Int) := ot_ (by first | (with_reducible assumption) | assumption); obtain ⟨ad268, A268_1, c268_1, e268, hx268_0, hx268_1, hl268_1, hi268_1⟩ := at_T79 HR0.out x4_1 p268 q268; have hw268_1 := hx268_1; have hw268_0 := hx268_0; obtain rfl : ad264 = ad268 := (by injection e268); replace hx268_0 := (HB.out.cell (bk_ w _ hx268_0)).trans hx268_0; replace hx268_1 := (HB.out.cell (bk_ w _ hx268_1)).trans hx268_1; have HR268_1 := am_ hi268_1; have HC268_1 := am_ hl268_1; clear hi268_1 hl268_1; replace p268 := eq_true p268; replace q268 := eq_true q268; have ea_ := si_ (hx264_1.symm.trans hx268_1); injection ea_ with ea_ en_ ec_
       subst ea_; subst ec_; clear en_; refine start_ (n := 17) (S := fun w' => w'.cell? (ad264.add ((x4_1).toNat * 2)) = some (.int .i64 ((rd_T79 l0 x4_1).f0)) ∧ w'.cell? ⟨(ad264.add ((x4_1).toNat * 2)).block, (ad264.add ((x4_1).toNat * 2)).off + 1, none⟩ = some (.slice A264_1 ((rd_T79 l0 x4_1).f1).length c264_1) ∧ w'.cell? (ad264.add ((x4_1).toNat * 2)) = some (.int .i64 ((rd_T79 l0 x4_1).f0)) ∧ w'.cell? ⟨(ad264.add ((x4_1).toNat * 2)).block, (ad264.add ((x4_1).toNat * 2)).off + 1, none⟩ = some (.slice A264_1 ((rd_T79 l0 x4_1).f1).length c264_1)) (ds := []) #[false, false, false, false, false, false, false, false, false, false, false, false, false, false, false, false, false] (by kernel_rfl) rfl rfl ⟨((HB.out.cell (bk_ w _ hw264_0)).trans hw264_0), ((HB.out.cell (bk_ w _ hw264_1)).trans hw264_1), ((HB.out.cell (bk_ w _ hw268_0)).trans hw268_0), ((HB.out.cell (bk_ w _ hw268_1)).trans hw268_1)⟩ (fun hHeld => ?_); refine with_tabW tapearchivelaw26_records.tab5 tapearchivelaw26_records.bits5 (fun HT_ HW_ => ?_); generalize wr.drew = w6 at HO_3 HB HR264_1 HR268_1 hx264_0 hx264_1 hx268_0 hx268_1 hHeld ⊢; refine pure_ (i := 0) (N := some 11) (v := ?_) (a' := ?_) #[true, false, false, false, false, false, false, false, false, false, false, false, false, false, false, false, false] rfl rfl (any_of HT_.out (by kernel_rfl)) (fun _ _ _ h => h) (Or.inl ⟨by rfl, ?_⟩) ?_ ?_; rotate_left; (intro w'; go_simp; with_reducible rfl); rotate_left; (simp only [Act.put, lt1_, lt2_, lt3_, i64_w, i32_w]; rfl); refine pure_ (i := 1) (N := some 12) (v := ?_) (a' := ?_) #[true, true, false, false, false, false, false, false, false, false, false, false, false, false, false, false, false] rfl rfl (any_of HT_.out (by kernel_rfl)) (fun _ _ _ h => h) (Or.inl ⟨by rfl, ?_⟩) ?_ ?_; rotate_left; (intro w'; go_simp; with_reducible rfl); rotate_left; (simp only [Act.put, lt1_, lt2_, lt3_, i64_w, i32_w]; rfl); refine pure_ (i := 2) (N := some 13) (v := ?_) (a' := ?_) #[true, true, true, false, false, false, false, false, false, false, false, false, false, false, false, false, false] rfl rfl (any_of HT_.out (by kernel_rfl)) (fun _ _ _ h => h) (Or.inl ⟨by rfl, ?_⟩) ?_ ?_; rotate_left; (intro w'; go_simp; with_reducible rfl); rotate_left; (simp only [Act.put, lt1_, lt2_, lt3_, i64_w, i32_w]; rfl); refine pure_ (i := 3) (N := some 14) (v := ?_) (a' := ?_) #[true, true, true, true, false, false, false, false, false, false, false, false, false, false, false, false, false] rfl rfl (any_of HT_.out (by kernel_rfl)) (fun _ _ _ h => h) (Or.inl ⟨by rfl, ?_⟩) ?_ ?_; rotate_left; (intro w'; go_simp; with_reducible rfl); rotate_left; (simp only [Act.put, lt1_, lt2_, lt3_, i64_w, i32_w]; rfl); refine pure_ (i := 4) (N := some 15) (v := ?_) (a' := ?_) #[true, true, true, true, true, false, false, false, false, false, false, false, false, false, false, false, false] rfl rfl (any_of HT_.out (by kernel_rfl)) (fun _ _ _ h => h) (Or.inl ⟨by rfl, ?_⟩) ?_ ?_
       rotate_left; (intro w'; go_simp; with_reducible rfl); rotate_left; (simp only [Act.put, lt1_, lt2_, lt3_, i64_w, i32_w]; rfl); refine pure_ (i := 7) (N := some 18) (v := ?_) (a' := ?_) #[true, true, true, true, true, false, false, true, false, false, false, false, false, false, false, false, false] rfl rfl (any_of HT_.out (by kernel_rfl)) (fun _ _ _ h => h) (Or.inl ⟨by rfl, ?_⟩) ?_ ?_; rotate_left; (intro w'; go_simp; with_reducible rfl); rotate_left; (simp only [Act.put, lt1_, lt2_, lt3_, i64_w, i32_w]; rfl); refine pure_ (i := 8) (N := some 19) (v := ?_) (a' := ?_) #[true, true, true, true, true, false, false, true, true, false, false, false, false, false, false, false, false] rfl rfl (any_of HT_.out (by kernel_rfl)) (fun _ _ _ h => h) (Or.inl ⟨by rfl, ?_⟩) ?_ ?_; rotate_left; (intro w'; go_simp; with_reducible rfl); rotate_left; (simp only [Act.put, lt1_, lt2_, lt3_, i64_w, i32_w]; rfl); refine pure_ (i := 9) (N := some 20) (v := ?_) (a' := ?_) #[true, true, true, true, true, false, false, true, true, true, false, false, false, false, false, false, false] rfl rfl (any_of HT_.out (by kernel_rfl)) (fun _ _ _ h => h) (Or.inl ⟨by rfl, ?_⟩) ?_ ?_; rotate_left; (intro w'; go_simp; with_reducible rfl); rotate_left; (simp only [Act.put, lt1_, lt2_, lt3_, i64_w, i32_w]; rfl); refine pure_ (i := 10) (N := some 21) (v := ?_) (a' := ?_) #[true, true, true, true, true, false, false, true, true, true, true, false, false, false, false, false, false] rfl rfl (any_of HT_.out (by kernel_rfl)) (fun _ _ _ h => h) (Or.inl ⟨by rfl, ?_⟩) ?_ ?_; rotate_left; (intro w'; go_simp; with_reducible rfl); rotate_left; (simp only [Act.put, lt1_, lt2_, lt3_, i64_w, i32_w]; rfl); refine take_ (i := 5) (N := some 16) (v := ?_) (a' := ?_) #[true, true, true, true, true, true, false, true, true, true, true, false, false, false, false, false, false] rfl rfl (take_ofW HT_.out HW_.out (by kernel_rfl)) (fun _ _ _ h => h) (Or.inl ⟨by rfl, ?_⟩) hHeld ?_ ?_; rotate_left
       ·
        rintro w' ⟨s0, s1, s2, s3⟩; go_simp; with_reducible rfl
       rotate_left
       ·
        simp only [Act.put, lt1_, lt2_, lt3_, i64_w, i32_w]; rfl
       refine take_ (i := 11) (N := some 22) (v := ?_) (a' := ?_) #[true, true, true, true, true, true, false, true, true, true, true, true, false, false, false, false, false] rfl rfl (take_ofW HT_.out HW_.out (by kernel_rfl)) (fun _ _ _ h => h) (Or.inl ⟨by rfl, ?_⟩) hHeld ?_ ?_; rotate_left
       ·
        rintro w' ⟨s0, s1, s2, s3⟩; go_simp; with_reducible rfl
       rotate_left
       ·
        simp only [Act.put, lt1_, lt2_, lt3_, i64_w, i32_w]; rfl
       refine one_ (i := 6) (N := some 17) #[true, true, true, true, true, true, true, true, true, true, true, true, false, false, false, false, false] rfl rfl (one_of HT_.out (by kernel_rfl)) (by decide) (fun K hK => ?_); refine Kd.R_lit_step (Kd.int .u8) _ 5 ?hg (N := 17) ?hd (xs := ([] : List Int)) (inner := []) (ok := fun _ => True) (okp := fun _ => True) ?hr ?hp (fun _ hk => hk) trivial (Below.refl _ _) (Nat.le_refl _) (by simp) ?_; (case hd => rfl); (case hg => rfl); (case hr => first | (go_simp; done) | (go_simp; rfl)); (case hp => exact (Reps.none _ _)); intro v266 w7 ho8 hb hg_ hnew_; clear hg_ hnew_
       (first | rw [← Ny265.out] at ho8 | (simp only [Int.reduceToNat] at ho8; rw [← Ny265.out] at ho8))
       have n0_ := am_ (Kd.S_elder' (pS_ HO_3.out) (Kd.R_base ho8) hb); have n1_ := am_ (Kd.R_lower ho8 (bz_ (pb0_ HB.out))); have n2_ := am_ (sp_ (pb0_ HB.out) hb); clear HO_3; clear HB; have HO_3 := n0_; have HO267 := n1_; have HB := n2_; clear n0_ n1_ n2_; clear hb ho8; refine hK.out _ _ ⟨((HB.out.cell (bk_ w _ hw264_0)).trans hw264_0), ((HB.out.cell (bk_ w _ hw264_1)).trans hw264_1), ((HB.out.cell (bk_ w _ hw268_0)).trans hw268_0), ((HB.out.cell (bk_ w _ hw268_1)).trans hw268_1)⟩ (fun hHeld => ?_); clear hK K; refine norm_ (a' := ?_) ?_ ?_; rotate_left
       ·
        show Act.put _ (some 17) _ = _
        simp only [Act.put, lt1_, lt2_, lt3_, i64_w, i32_w]; rfl
       refine one_ (i := 12) (N := some 23) #[true, true, true, true, true, true, true, true, true, true, true, true, true, false, false, false, false] rfl rfl (one_of HT_.out (by kernel_rfl)) (by decide) (fun K hK => ?_); refine Kd.R_append_rows_step (Kd.int .u8) (w0 := w) w.heap.size (by rfl) (.tmp 17) (.tmp 22) 25 5 (.int .u8 0) 1 rfl Try.underlying25 info5 rfl (by decide) (by omega) v266 y265 ((rd_T79 l0 x4_1).f1) _ _ _ (fun _ => True) (fun _ => False) rfl rfl ?aO ?aR (fun _ _ h => h) (fun _ h => h.elim) ?aF ?aB ?aS ?aL ?_
       (case aR => repeat (first | exact (Kd.C_below HR268_1.out HB.out) | (with_reducible refine Kd.C_alloc ?_ _) | (with_reducible refine Kd.C_drewN ?_ _) | (with_reducible refine Kd.C_drew ?_)))
       (case aB => exact (pb0_ HB.out))
       (case aF => exact (fun _ _ => trivial))
       (case aO => exact (pR_ HO267.out))
       (case aS => exact (bz_ (pb0_ HB.out)))
       (case aL => have := LMc4.out; omega)
       intro v270 w9 ho hb hg hat; rw [← Ny269.out] at ho; have n0_ := am_ (Kd.S_after (ok := (fun _ => True)) (pS_ HO_3.out) hg hat); have n1_ := am_ (hb); have n2_ := am_ (ho); clear HO_3; clear HB; clear HO267; have HO_3 := n0_; have HB := n1_; have HO271 := n2_; clear n0_ n1_ n2_; clear ho hb hg hat; obtain ⟨Ao10, co10, eo10⟩ := Kd.R_slice HO271.out
       (first | subst eo10 | (injection eo10 with f1_ f2_ f3_; have f4_ := f1_.symm; have f5_ := f3_.symm; clear f1_ f2_ f3_; subst f4_; subst f5_))
       refine hK.out _ _ ⟨((HB.out.cell (bk_ w _ hw264_0)).trans hw264_0), ((HB.out.cell (bk_ w _ hw264_1)).trans hw264_1), ((HB.out.cell (bk_ w _ hw268_0)).trans hw268_0), ((HB.out.cell (bk_ w _ hw268_1)).trans hw268_1)⟩ (fun hHeld => ?_); clear hK K; refine norm_ (a' := ?_) ?_ ?_; rotate_left
       ·
        show Act.put _ (some 23) _ = _
        simp only [Act.put, lt1_, lt2_, lt3_, i64_w, i32_w]; rfl
       refine pure_ (i := 13) (N := some 24) (v := ?_) (a' := ?_) #[true, true, true, true, true, true, true, true, true, true, true, true, true, true, false, false, false] rfl rfl (any_of HT_.out (by kernel_rfl)) (fun _ _ _ h => h) (Or.inl ⟨by rfl, ?_⟩) ?_ ?_; rotate_left; (intro w'; go_simp; with_reducible rfl); rotate_left; (simp only [Act.put, lt1_, lt2_, lt3_, i64_w, i32_w]; rfl); refine one_ (i := 14) (N := some 25) #[true, true, true, true, true, true, true, true, true, true, true, true, true, true, true, false, false] rfl rfl (one_of HT_.out (by kernel_rfl)) (by decide) (fun K hK => ?_); refine value_ (w1 := ?_) (v := ?_) (by rfl) rfl ?_ ?_; rotate_left 2
       ·
        go_simp
        constructor
        ·
         rfl
        ·
         rfl
       refine hK.out _ _ ⟨(World.cell?_alloc_lt _ _ _ (bk_ _ _ (((HB.out.cell (bk_ w _ hw264_0)).trans hw264_0)))).trans (((HB.out.cell (bk_ w _ hw264_0)).trans hw264_0)), (World.cell?_alloc_lt _ _ _ (bk_ _ _ (((HB.out.cell (bk_ w _ hw264_1)).trans hw264_1)))).trans (((HB.out.cell (bk_ w _ hw264_1)).trans hw264_1)), (World.cell?_alloc_lt _ _ _ (bk_ _ _ (((HB.out.cell (bk_ w _ hw268_0)).trans hw268_0)))).trans (((HB.out.cell (bk_ w _ hw268_0)).trans hw268_0)), (World.cell?_alloc_lt _ _ _ (bk_ _ _ (((HB.out.cell (bk_ w _ hw268_1)).trans hw268_1)))).trans (((HB.out.cell (bk_ w _ hw268_1)).trans hw268_1))⟩ (fun hHeld => ?_); clear hK K; refine norm_ (a' := ?_) ?_ ?_; rotate_left
       ·
        show Act.put _ (some 25) _ = _
        simp only [Act.put, lt1_, lt2_, lt3_, i64_w, i32_w]; rfl
       refine one_ (i := 15) (N := some 26) #[true, true, true, true, true, true, true, true, true, true, true, true, true, true, true, true, false] rfl rfl (one_of HT_.out (by kernel_rfl)) (by decide) (fun K hK => ?_); refine Kd.S_append_step k87 (w0 := w) w.heap.size (by rfl) (.tmp 11) (.tmp 25) 28 87 (.agg #[(.int .i64 0), (.slice none 0 0)]) 32 rfl Try.underlying28 info87 rfl (by decide) (by omega) u3 x3_1 (⟨(rd_T79 l0 x4_1).f0, y269⟩ : S87) [.int .i64 ((rd_T79 l0 x4_1).f0), .slice Ao10 y269.length co10] (fun _ => True) (fun k_ => some k_ = (.slice Ao10 y269.length co10 : Value).ownBlock) rfl rfl ?aP (fun k_ hk_ => ((Kd.R_mono (ok' := fun k_ => ((fun _ => True)) k_ ∧ some k_ ≠ (u3 : Value).ownBlock) (Kd.R_apart' (HO271.out) (Kd.S_typed HO_3.out) (by decide)) (fun k_ hk => ⟨trivial, hk.2⟩))).1 k_ hk_.symm) ?aF ?aO ?aB ?aS ?aL ?_
       (case aP => exact k87_mkM _ _ _ (⟨(rd_T79 l0 x4_1).f0, y269⟩ : S87) (Kd.R_mono (Kd.R_tight rfl (Kd.R_mono (ok' := fun k_ => ((fun _ => True)) k_ ∧ some k_ ≠ (u3 : Value).ownBlock) (Kd.R_apart' (HO271.out) (Kd.S_typed HO_3.out) (by decide)) (fun k_ hk => ⟨trivial, hk.2⟩))) (fun _ h_ => h_)))
       (case aB => exact (pb0_ HB.out))
       (case aF => exact (fun _ _ => trivial))
       (case aO => exact (by (with_reducible repeat (first | apply Kd.S_alloc | apply Kd.S_drewN | apply Kd.S_drew)); exact Kd.S_mono HO_3.out (fun k_ hk => ⟨trivial, fun e_ => hk.2 e_⟩)))
       (case aS => exact (bz_ (pb0_ HB.out)))
       (case aL => have := LMc5.out; omega)
       intro v273 w11 ho hb hg hat; rw [← Ny272.out] at ho; have n0_ := am_ (hb); have n1_ := am_ (ho); clear HB; clear HO_3; clear HO271; have HB := n0_; have HO274 := n1_; clear n0_ n1_; clear ho hb hg hat; refine hK.out _ _ ⟨((HB.out.cell (bk_ w _ hw264_0)).trans hw264_0), ((HB.out.cell (bk_ w _ hw264_1)).trans hw264_1), ((HB.out.cell (bk_ w _ hw268_0)).trans hw268_0), ((HB.out.cell (bk_ w _ hw268_1)).trans hw268_1)⟩ (fun hHeld => ?_); clear hK K; refine norm_ (a' := ?_) ?_ ?_; rotate_left
       ·
        show Act.put _ (some 26) _ = _
        simp only [Act.put, lt1_, lt2_, lt3_, i64_w, i32_w]; rfl
       refine pure_ (i := 16) (N := some 3) (v := ?_) (a' := ?_) #[true, true, true, true, true, true, true, true, true, true, true, true, true, true, true, true, true] rfl rfl (any_of HT_.out (by kernel_rfl)) (fun _ _ _ h => h) (Or.inl ⟨by rfl, ?_⟩) ?_ ?_; rotate_left; (intro w'; go_simp; with_reducible rfl); rotate_left; (simp only [Act.put, lt1_, lt2_, lt3_, i64_w, i32_w]; rfl); refine done_ (done_of HT_.out (by kernel_rfl)) ?_
       try go_wp2
       go_roundg k1
       case measure => have := HK1.out; omega
       case rel => exact ⟨(y272), (wrap64 (x4_1 + 1)), (by first | rfl | (simp; done) | (simp [*]; done)), H', ⟨by have := HK1.out; omega⟩, ⟨by (with_reducible repeat (first | apply Kd.S_alloc | apply Kd.S_drewN | apply Kd.S_drew)); exact HO274.out⟩, ⟨pb0_ HB.out⟩⟩
      ·
       rw [if_neg c5] at H; exact absurd H (by simp)
     ·
      rw [if_neg c4] at H; exact absurd H (by simp)
    ·
     rw [if_neg c3] at H; exact absurd H (by simp)
   ·
    rw [if_neg c2] at H; have c2b0 : decide (x4_1 < (l0.length : Int)) = false := df_ c2; clear c2; obtain rfl := si_ H; go_wp2; go_ret; exact ⟨_, by first | rfl | (simp [errW_none, errW_some] <;> rfl) | (simp [*, errW_none, errW_some] <;> rfl), by (with_reducible repeat (first | apply Kd.S_alloc | apply Kd.S_drewN | apply Kd.S_drew)); exact HO_3.out, pb0_ HB.out⟩
def tapearchivelaw26_node.f (k : Nat) (a0_0 : Int) (a0_1 : Int) (l0_2 : List (S79)) : Option (Int × Int × (List (S87))) := (tapearchivelaw26_records.f k l0_2).bind fun t277 => (some (a0_0, a0_1, t277))
def tapearchivelaw26_node.T1 : Bool × List (List Nat × List Nat) := (true, [([], []), ([0], [0]), ([], []), ([2], [2]), ([], []), ([4], [4]), ([5], [5]), ([1, 3, 6], [1, 3, 6]), ([7, 6, 0, 1, 2, 3, 4, 5, 6, 7], [7])])
def tapearchivelaw26_node.B1 : List Nat := [0, 1, 0, 4, 0, 16, 48, 127, 255]
theorem tapearchivelaw26_node.tab1 : rtab .any (opsOf Try.f11 1) = tapearchivelaw26_node.T1 := by kernel_rfl
theorem tapearchivelaw26_node.bits1 : waitsOk tapearchivelaw26_node.T1.2 tapearchivelaw26_node.B1 = true := by kernel_rfl
set_option maxHeartbeats 8000000 in
set_option maxRecDepth 100000 in
theorem tapearchivelaw26_node.calls (k : Nat) (a0_0 : Int) (a0_1 : Int) (A0_2 : Option Addr) (c0_2 : Nat) (l0_2 : List (S79)) (r1 : Int) (r2 : Int) (r3 : List (S87)) (w : World) (hr0_2 : Kd.C k79 w A0_2 l0_2.length l0_2) (hc0_2 : l0_2.length ≤ c0_2) (h : tapearchivelaw26_node.f k a0_0 a0_1 l0_2 = some (r1, r2, r3)) :
  Calls Try.prog 11 #[.agg #[.int .i64 a0_0, .int .i64 a0_1, .slice A0_2 l0_2.length c0_2]] w fun e w' => ∃ v2_ : Value, e = .returned (.agg #[.int .i64 r1, .int .i64 r2, v2_]) ∧ Kd.S k87 87 w' w.heap.size (fun _ => True) v2_ r3 ∧ Below w.heap.size w w' := by
 have hu24 := Try.underlying24; have hu35 := Try.underlying35; have HR0_2 := am_ hr0_2; have HC0_2 := am_ hc0_2; clear hr0_2 hc0_2; have HB := am_ (Below.refl w.heap.size w); have H : ((tapearchivelaw26_records.f k l0_2).bind fun t277 => (some (a0_0, a0_1, t277))) = some (r1, r2, r3) := h; clear h; replace H := Option.bind_eq_some_iff.mp H; obtain ⟨t277, A20, H⟩ := H; replace H : (some (a0_0, a0_1, t277)) = some (r1, r2, r3) := H; have A2 := am_ A20; clear A20; simp only [Option.some.injEq, Prod.mk.injEq] at H; obtain ⟨rfl, rfl, rfl⟩ := H; go_enter Try.func11, Try.ntmps11
 try go_wp2_with (first | ((with_reducible refine gate_dst (N := 1) rfl ?_); refine box_event ?hg (N := 1) ?hd (cs := #[.int .i64 a0_0, .int .i64 a0_1, .slice A0_2 l0_2.length c0_2]) (t := 24) ?hr ?_; (case hd => rfl); (case hg => rfl); (case hr => first | (go_simp; done) | (go_simp; rfl)); intro gb275 hg w3 hbox hb; have n0_ := am_ (sp_ (pb0_ HB.out) hb); have n1_ := am_ (hbox); have n2_ := am_ ((by rw [hg]; exact (bz_ (pb0_ HB.out)) : w.heap.size ≤ gb275)); have n3_ := am_ ((by rw [hg]; exact (bz_ (pb0_ HB.out)) : w.heap.size ≤ gb275)); clear HB; have HB := n0_; have BK275 := n1_; have GW275 := n2_; have GE275 := n3_; clear n0_ n1_ n2_ n3_; clear hb hbox hg) | ((with_reducible refine gate_dst (N := 2) rfl ?_); refine box_event ?hg (N := 2) ?hd (cs := #[.int .i64 0, .int .i64 0, .slice none 0 0]) (t := 35) ?hr ?_; (case hd => rfl); (case hg => rfl); (case hr => first | (go_simp; done) | (go_simp; rfl)); intro gb276 hg w4 hbox hb; have n0_ := am_ (bw_ (g := gb275) (o := .cells #[.int .i64 a0_0, .int .i64 a0_1, .slice A0_2 l0_2.length c0_2] 24 (0, 0)) (pk_ BK275.out) hb); have n1_ := am_ (sp_ (pb1_ HB.out GE275.out) hb); have n2_ := am_ (hbox); have n3_ := am_ ((by rw [hg]; exact (bz_ (pb1_ HB.out GE275.out)) : w.heap.size ≤ gb276)); have n4_ := am_ ((by rw [hg]; exact (bz_ (pb1_ HB.out GE275.out)) : w.heap.size ≤ gb276)); have n5_ := am_ ((by rw [hg]; exact Nat.ne_of_lt (blk_lt (g := gb275) (o := .cells #[.int .i64 a0_0, .int .i64 a0_1, .slice A0_2 l0_2.length c0_2] 24 (0, 0)) (pk_ BK275.out)) : gb275 ≠ gb276)); have n6_ := am_ ((by rw [hg]; exact Nat.ne_of_gt (blk_lt (g := gb275) (o := .cells #[.int .i64 a0_0, .int .i64 a0_1, .slice A0_2 l0_2.length c0_2] 24 (0, 0)) (pk_ BK275.out)) : gb276 ≠ gb275)); clear BK275; clear HB; have BK275 := n0_; have HB := n1_; have BK276 := n2_; have GW276 := n3_; have GE276 := n4_; have NB275_276 := n5_; have NB276_275 := n6_; clear n0_ n1_ n2_ n3_ n4_ n5_ n6_; clear hb hbox hg))
 have n0_ := am_ (bd_ BK275.out); have n1_ := am_ (bd_ BK276.out); have n2_ := am_ (b1_ HB.out); clear BK275; clear BK276; clear HB; have BK275 := n0_; have BK276 := n1_; have HB := n2_; clear n0_ n1_ n2_; refine start_ (n := 9) (S := fun w' => w'.cell? ⟨gb275, 0, none⟩ = some (.int .i64 a0_0) ∧ w'.cell? ⟨gb275, 1, none⟩ = some (.int .i64 a0_1) ∧ w'.cell? ⟨gb275, 2, none⟩ = some (.slice A0_2 l0_2.length c0_2)) (ds := []) #[false, false, false, false, false, false, false, false, false] (by kernel_rfl) rfl rfl ⟨(bc_ BK275.out 0).trans rfl, (bc_ BK275.out 1).trans rfl, (bc_ BK275.out 2).trans rfl⟩ (fun hHeld => ?_); refine with_tabW tapearchivelaw26_node.tab1 tapearchivelaw26_node.bits1 (fun HT_ HW_ => ?_); generalize w4.drew = w5 at BK275 BK276 HB hHeld ⊢; refine pure_ (i := 0) (N := some 3) (v := ?_) (a' := ?_) #[true, false, false, false, false, false, false, false, false] rfl rfl (any_of HT_.out (by kernel_rfl)) (fun _ _ _ h => h) (Or.inl ⟨by rfl, ?_⟩) ?_ ?_; rotate_left; (intro w'; go_simp; with_reducible rfl); rotate_left; (simp only [Act.put, lt1_, lt2_, lt3_, i64_w, i32_w]; rfl); refine pure_ (i := 2) (N := some 5) (v := ?_) (a' := ?_) #[true, false, true, false, false, false, false, false, false] rfl rfl (any_of HT_.out (by kernel_rfl)) (fun _ _ _ h => h) (Or.inl ⟨by rfl, ?_⟩) ?_ ?_; rotate_left; (intro w'; go_simp; with_reducible rfl); rotate_left; (simp only [Act.put, lt1_, lt2_, lt3_, i64_w, i32_w]; rfl); refine pure_ (i := 4) (N := some 7) (v := ?_) (a' := ?_) #[true, false, true, false, true, false, false, false, false] rfl rfl (any_of HT_.out (by kernel_rfl)) (fun _ _ _ h => h) (Or.inl ⟨by rfl, ?_⟩) ?_ ?_; rotate_left; (intro w'; go_simp; with_reducible rfl); rotate_left; (simp only [Act.put, lt1_, lt2_, lt3_, i64_w, i32_w]; rfl); refine take_ (i := 1) (N := some 4) (v := ?_) (a' := ?_) #[true, true, true, false, true, false, false, false, false] rfl rfl (take_ofW HT_.out HW_.out (by kernel_rfl)) (fun _ _ _ h => h) (Or.inl ⟨by rfl, ?_⟩) hHeld ?_ ?_; rotate_left
 ·
  rintro w' ⟨s0, s1, s2⟩; go_simp; with_reducible rfl
 rotate_left
 ·
  simp only [Act.put, lt1_, lt2_, lt3_, i64_w, i32_w]; rfl
 refine take_ (i := 3) (N := some 6) (v := ?_) (a' := ?_) #[true, true, true, true, true, false, false, false, false] rfl rfl (take_ofW HT_.out HW_.out (by kernel_rfl)) (fun _ _ _ h => h) (Or.inl ⟨by rfl, ?_⟩) hHeld ?_ ?_; rotate_left
 ·
  rintro w' ⟨s0, s1, s2⟩; go_simp; with_reducible rfl
 rotate_left
 ·
  simp only [Act.put, lt1_, lt2_, lt3_, i64_w, i32_w]; rfl
 refine take_ (i := 5) (N := some 8) (v := ?_) (a' := ?_) #[true, true, true, true, true, true, false, false, false] rfl rfl (take_ofW HT_.out HW_.out (by kernel_rfl)) (fun _ _ _ h => h) (Or.inl ⟨by rfl, ?_⟩) hHeld ?_ ?_; rotate_left
 ·
  rintro w' ⟨s0, s1, s2⟩; go_simp; with_reducible rfl
 rotate_left
 ·
  simp only [Act.put, lt1_, lt2_, lt3_, i64_w, i32_w]; rfl
 refine one_ (i := 6) (N := some 9) #[true, true, true, true, true, true, true, false, false] rfl rfl (one_of HT_.out (by kernel_rfl)) (by decide) (fun K hK => ?_); refine goes_ Try.func30 (by kernel_rfl) rfl #[.slice A0_2 l0_2.length c0_2] (by rfl) rfl rfl au_ ?_
 with_reducible refine (tapearchivelaw26_records.calls k _ _ l0_2 t277 _ ?side1 ?side2 A2.out).mono ?_
 (case side1 => repeat (first | exact (Kd.C_below HR0_2.out HB.out) | (with_reducible refine Kd.C_alloc ?_ _) | (with_reducible refine Kd.C_drewN ?_ _) | (with_reducible refine Kd.C_drew ?_)))
 (case side2 => exact HC0_2.out)
 rintro e w6 ⟨v278, rfl, ho0, hb⟩; refine ⟨_, rfl, ?_⟩; have n0_ := am_ (Kd.S_lower ho0 (bz_ (pb2_ HB.out GE275.out GE276.out))); have n1_ := am_ (bw_ (g := gb275) (o := .cells #[.int .i64 a0_0, .int .i64 a0_1, .slice A0_2 l0_2.length c0_2] 24 (0, 0)) (pk_ BK275.out) hb); have n2_ := am_ (bw_ (g := gb276) (o := .cells #[.int .i64 0, .int .i64 0, .slice none 0 0] 35 (0, 0)) (pk_ BK276.out) hb); have n3_ := am_ (sp_ (pb2_ HB.out GE275.out GE276.out) hb); clear BK275; clear BK276; clear HB; have HO279 := n0_; have BK275 := n1_; have BK276 := n2_; have HB := n3_; clear n0_ n1_ n2_ n3_
 (try clear hb)
 (try clear hb2)
 (try clear hk)
 (try clear hi)
 (try clear ho0)
 obtain ⟨Ao7, co7, eo7⟩ := Kd.S_slice HO279.out
 (first | subst eo7 | (injection eo7 with f1_ f2_ f3_; have f4_ := f1_.symm; have f5_ := f3_.symm; clear f1_ f2_ f3_; subst f4_; subst f5_))
 refine hK.out _ _ ⟨(bc_ BK275.out 0).trans rfl, (bc_ BK275.out 1).trans rfl, (bc_ BK275.out 2).trans rfl⟩ (fun hHeld => ?_); clear hK K; refine norm_ (a' := ?_) ?_ ?_; rotate_left
 ·
  show Act.put _ (some 9) _ = _
  simp only [Act.put, lt1_, lt2_, lt3_, i64_w, i32_w]; rfl
 refine pure_ (i := 7) (N := some 10) (v := ?_) (a' := ?_) #[true, true, true, true, true, true, true, true, false] rfl rfl (any_of HT_.out (by kernel_rfl)) (fun _ _ _ h => h) (Or.inl ⟨by rfl, ?_⟩) ?_ ?_; rotate_left; (intro w'; go_simp; with_reducible rfl); rotate_left; (simp only [Act.put, lt1_, lt2_, lt3_, i64_w, i32_w]; rfl); refine one_ (i := 8) (N := none) #[true, true, true, true, true, true, true, true, true] rfl rfl (one_of HT_.out (by kernel_rfl)) (by decide) (fun K hK => ?_); have hs8 : w6.cell? ⟨gb276, 0, none⟩ = some (.int .i64 0) := (bc_ BK276.out 0).trans rfl; have hfs8 := bf_ BK276.out 0; have hns8_0 := NB275_276.out; have hms8_0 := NB276_275.out; have hs9 : w6.cell? ⟨gb276, 1, none⟩ = some (.int .i64 0) := (bc_ BK276.out 1).trans rfl; have hfs9 := bf_ BK276.out 1; have hns9_0 := NB275_276.out; have hms9_0 := NB276_275.out; have hs10 : w6.cell? ⟨gb276, 2, none⟩ = some (.slice none 0 0) := (bc_ BK276.out 2).trans rfl; have hfs10 := bf_ BK276.out 2; have hns10_0 := NB275_276.out; have hms10_0 := NB276_275.out; refine skip_ (w1 := ?_) (by rfl) rfl ?_ ?_; rotate_left
 ·
  go_simp; rfl
 refine hK.out _ _ ⟨((cell_far (p := ⟨gb276, _, none⟩) NB275_276.out _).trans (((cell_far (p := ⟨gb276, _, none⟩) NB275_276.out _).trans (((cell_far (p := ⟨gb276, _, none⟩) NB275_276.out _).trans (hHeld.1)))))), ((cell_far (p := ⟨gb276, _, none⟩) NB275_276.out _).trans (((cell_far (p := ⟨gb276, _, none⟩) NB275_276.out _).trans (((cell_far (p := ⟨gb276, _, none⟩) NB275_276.out _).trans (hHeld.2.1)))))), ((cell_far (p := ⟨gb276, _, none⟩) NB275_276.out _).trans (((cell_far (p := ⟨gb276, _, none⟩) NB275_276.out _).trans (((cell_far (p := ⟨gb276, _, none⟩) NB275_276.out _).trans (hHeld.2.2))))))⟩ (fun hHeld => ?_); clear hK K; refine done_ (done_of HT_.out (by kernel_rfl)) ?_
 try go_wp2
 refine bodyPost_ret (results_cell_row rfl _ _ gb276 35 #[.int .i64 a0_0, .int .i64 a0_1, .slice Ao7 t277.length co7] (0, 0) _ rfl (by (with_reducible repeat (first | refine bn_ ?_ _ | refine bd_ ?_ | refine ba_ ?_ _)); refine blk_put (cs := #[.int .i64 a0_0, .int .i64 a0_1, .slice none 0 0]) ?_ 2 _ rfl; (with_reducible repeat (first | refine bn_ ?_ _ | refine bd_ ?_ | refine ba_ ?_ _)); refine blk_put (cs := #[.int .i64 a0_0, .int .i64 0, .slice none 0 0]) ?_ 1 _ rfl; (with_reducible repeat (first | refine bn_ ?_ _ | refine bd_ ?_ | refine ba_ ?_ _)); refine blk_put (cs := #[.int .i64 0, .int .i64 0, .slice none 0 0]) ?_ 0 _ rfl; (with_reducible repeat (first | refine bn_ ?_ _ | refine bd_ ?_ | refine ba_ ?_ _)); exact BK276.out) Try.underlying35 rfl (by kernel_rfl)) rfl ?_; exact ⟨_, by first | rfl | (simp [errW_none, errW_some] <;> rfl) | (simp [*, errW_none, errW_some] <;> rfl), by (with_reducible repeat (first | apply Kd.S_alloc | apply Kd.S_drewN | apply Kd.S_drew)); exact Kd.S_mono (Kd.S_far (p := ⟨gb276, 2, none⟩) (Kd.S_far (p := ⟨gb276, 1, none⟩) (Kd.S_far (p := ⟨gb276, 0, none⟩) (Kd.S_types HO279.out BK276.out (by decide)) (fun _ hk => hk.2) (.int .i64 a0_0)) (fun _ hk => hk.2) (.int .i64 a0_1)) (fun _ hk => hk.2) (.slice Ao7 t277.length co7)) (fun _ hk => trivial), pb2_ HB.out GE275.out GE276.out⟩
def tapearchiveref26_records.l0 : Nat → List (S79) → Int → Int → Int → Option (Bool)
 | 0, _, _, _, _ => none
 | k + 1, x0, x1, x2, x7 => if x7 < (x0.length : Int) then (if 0 ≤ x7 then (if ((rd_T79 x0 x7).f0) < x1 then (some false) else (if ((rd_T79 x0 x7).f0) > x2 then (some false) else (if (((rd_T79 x0 x7).f1).length : Int) > 65536 then (some false) else (tapearchiveref26_records.l0 k x0 ((rd_T79 x0 x7).f0) x2 (wrap64 (x7 + 1)))))) else (none)) else (some true)
def tapearchiveref26_records.f (k : Nat) (l0 : List (S79)) (a1 : Int) (a2 : Int) : Option (Bool) := tapearchiveref26_records.l0 k l0 a1 a2 0
set_option maxHeartbeats 8000000 in
set_option maxRecDepth 100000 in
theorem tapearchiveref26_records.calls (k : Nat) (A0 : Option Addr) (c0 : Nat) (l0 : List (S79)) (a1 : Int) (a2 : Int) (r : Bool) (w : World) (hr0 : Kd.C k79 w A0 l0.length l0) (hc0 : l0.length ≤ c0) (h : tapearchiveref26_records.f k l0 a1 a2 = some r) :
  Calls Try.prog 50 #[.slice A0 l0.length c0, .int .i64 a1, .int .i64 a2] w fun e w' => e = .returned (.bool r) ∧ Drawn0 w w' := by
 have HR0 := am_ hr0; have HC0 := am_ hc0; clear hr0 hc0; have H : (tapearchiveref26_records.l0 k l0 a1 a2 0) = some r := h; clear h; have H' := am_ H; clear H; go_enter Try.func50, Try.ntmps50; go_wp2
 go_loopg [1, 7] k (fun kq v1 v7 w' => ∃ (x1_1 : Int) (x7_1 : Int), v1 = .int .i64 x1_1 ∧ v7 = .int .i64 x7_1 ∧ Aside0 (tapearchiveref26_records.l0 kq l0 x1_1 a2 x7_1 = some r) ∧ Aside0 (kq ≤ k) ∧ Drawn0 w w')
 case atStart => exact ⟨(a1), (0), (by first | rfl | (simp; done) | (simp [*]; done)), (by first | rfl | (simp; done) | (simp [*]; done)), H', ⟨Nat.le_refl _⟩, by repeat (first | exact Drawn0.refl _ | apply Drawn0.step)⟩
 case round =>
  clear H'
  try clear p2
  obtain ⟨x1_1, x7_1, rfl, rfl, HA, HK1, ⟨m1, rfl⟩⟩ := hrel; cases gk with
  | zero => exact absurd HA.out (by simp [tapearchiveref26_records.l0])
  | succ k1 =>
   have H := HA.out; clear HA; simp only [tapearchiveref26_records.l0] at H
   by_cases c4 : x7_1 < (l0.length : Int)
   ·
    rw [if_pos c4] at H; have c4b0 : decide (x7_1 < (l0.length : Int)) = true := de_ c4; clear c4
    by_cases c5 : 0 ≤ x7_1
    ·
     rw [if_pos c5] at H; have c5b0 : decide (0 ≤ x7_1) = true := de_ c5; clear c5
     by_cases c6 : ((rd_T79 l0 x7_1).f0) < x1_1
     ·
      rw [if_pos c6] at H; have c6b0 : decide (((rd_T79 l0 x7_1).f0) < x1_1) = true := de_ c6; clear c6; obtain rfl := si_ H; have p280 : 0 ≤ (x7_1 : Int) := ot_ (by first | (with_reducible assumption) | assumption); have q280 : x7_1 < (l0.length : Int) := ot_ (by first | (with_reducible assumption) | assumption); obtain ⟨ad280, A280_1, c280_1, e280, hx280_0, hx280_1, hl280_1, hi280_1⟩ := at_T79 HR0.out x7_1 p280 q280; cases e280; have HR280_1 := am_ hi280_1; have HC280_1 := am_ hl280_1; clear hi280_1 hl280_1; replace p280 := eq_true p280; replace q280 := eq_true q280; go_wp2; go_ret; exact ⟨by first | rfl | (simp; done) | (simp [*]; done), by repeat (first | exact Drawn0.refl _ | apply Drawn0.step)⟩
     ·
      rw [if_neg c6] at H; have c6b0 : decide (((rd_T79 l0 x7_1).f0) < x1_1) = false := df_ c6; clear c6
      by_cases c7 : ((rd_T79 l0 x7_1).f0) > a2
      ·
       rw [if_pos c7] at H; have c7b0 : decide (a2 < ((rd_T79 l0 x7_1).f0)) = true := de_ c7; clear c7; obtain rfl := si_ H; have p280 : 0 ≤ (x7_1 : Int) := ot_ (by first | (with_reducible assumption) | assumption); have q280 : x7_1 < (l0.length : Int) := ot_ (by first | (with_reducible assumption) | assumption); obtain ⟨ad280, A280_1, c280_1, e280, hx280_0, hx280_1, hl280_1, hi280_1⟩ := at_T79 HR0.out x7_1 p280 q280; cases e280; have HR280_1 := am_ hi280_1; have HC280_1 := am_ hl280_1; clear hi280_1 hl280_1; replace p280 := eq_true p280; replace q280 := eq_true q280; have p281 : 0 ≤ (x7_1 : Int) := ot_ (by first | (with_reducible assumption) | assumption); have q281 : x7_1 < (l0.length : Int) := ot_ (by first | (with_reducible assumption) | assumption); obtain ⟨ad281, A281_1, c281_1, e281, hx281_0, hx281_1, hl281_1, hi281_1⟩ := at_T79 HR0.out x7_1 p281 q281; obtain rfl : ad280 = ad281 := (by injection e281); have HR281_1 := am_ hi281_1; have HC281_1 := am_ hl281_1; clear hi281_1 hl281_1; replace p281 := eq_true p281; replace q281 := eq_true q281; have ea_ := si_ (hx280_1.symm.trans hx281_1); injection ea_ with ea_ en_ ec_
       subst ea_; subst ec_; clear en_; go_wp2; go_ret; exact ⟨by first | rfl | (simp; done) | (simp [*]; done), by repeat (first | exact Drawn0.refl _ | apply Drawn0.step)⟩
      ·
       rw [if_neg c7] at H; have c7b0 : decide (a2 < ((rd_T79 l0 x7_1).f0)) = false := df_ c7; clear c7
       by_cases c8 : (((rd_T79 l0 x7_1).f1).length : Int) > 65536
       ·
        rw [if_pos c8] at H; have c8b0 : decide (65536 < (((rd_T79 l0 x7_1).f1).length : Int)) = true := de_ c8; have c8b1 : decide (65536 < ((rd_T79 l0 x7_1).f1).length) = true := de_ (by omega); clear c8; obtain rfl := si_ H; have p280 : 0 ≤ (x7_1 : Int) := ot_ (by first | (with_reducible assumption) | assumption); have q280 : x7_1 < (l0.length : Int) := ot_ (by first | (with_reducible assumption) | assumption); obtain ⟨ad280, A280_1, c280_1, e280, hx280_0, hx280_1, hl280_1, hi280_1⟩ := at_T79 HR0.out x7_1 p280 q280; cases e280; have HR280_1 := am_ hi280_1; have HC280_1 := am_ hl280_1; clear hi280_1 hl280_1; replace p280 := eq_true p280; replace q280 := eq_true q280; have p281 : 0 ≤ (x7_1 : Int) := ot_ (by first | (with_reducible assumption) | assumption); have q281 : x7_1 < (l0.length : Int) := ot_ (by first | (with_reducible assumption) | assumption); obtain ⟨ad281, A281_1, c281_1, e281, hx281_0, hx281_1, hl281_1, hi281_1⟩ := at_T79 HR0.out x7_1 p281 q281; obtain rfl : ad280 = ad281 := (by injection e281); have HR281_1 := am_ hi281_1; have HC281_1 := am_ hl281_1; clear hi281_1 hl281_1; replace p281 := eq_true p281; replace q281 := eq_true q281; have ea_ := si_ (hx280_1.symm.trans hx281_1); injection ea_ with ea_ en_ ec_
        subst ea_; subst ec_; clear en_; have p282 : 0 ≤ (x7_1 : Int) := ot_ (by first | (with_reducible assumption) | assumption); have q282 : x7_1 < (l0.length : Int) := ot_ (by first | (with_reducible assumption) | assumption); obtain ⟨ad282, A282_1, c282_1, e282, hx282_0, hx282_1, hl282_1, hi282_1⟩ := at_T79 HR0.out x7_1 p282 q282; obtain rfl : ad280 = ad282 := (by injection e282); have HR282_1 := am_ hi282_1; have HC282_1 := am_ hl282_1; clear hi282_1 hl282_1; replace p282 := eq_true p282; replace q282 := eq_true q282; have ea_ := si_ (hx280_1.symm.trans hx282_1); injection ea_ with ea_ en_ ec_
        subst ea_; subst ec_; clear en_; go_wp2; go_ret; exact ⟨by first | rfl | (simp; done) | (simp [*]; done), by repeat (first | exact Drawn0.refl _ | apply Drawn0.step)⟩
       ·
        rw [if_neg c8] at H; have c8b0 : decide (65536 < (((rd_T79 l0 x7_1).f1).length : Int)) = false := df_ c8; have c8b1 : decide (65536 < ((rd_T79 l0 x7_1).f1).length) = false := df_ (by omega); clear c8; have H' := am_ H; clear H; have p280 : 0 ≤ (x7_1 : Int) := ot_ (by first | (with_reducible assumption) | assumption); have q280 : x7_1 < (l0.length : Int) := ot_ (by first | (with_reducible assumption) | assumption); obtain ⟨ad280, A280_1, c280_1, e280, hx280_0, hx280_1, hl280_1, hi280_1⟩ := at_T79 HR0.out x7_1 p280 q280; cases e280; have HR280_1 := am_ hi280_1; have HC280_1 := am_ hl280_1; clear hi280_1 hl280_1; replace p280 := eq_true p280; replace q280 := eq_true q280; have p281 : 0 ≤ (x7_1 : Int) := ot_ (by first | (with_reducible assumption) | assumption); have q281 : x7_1 < (l0.length : Int) := ot_ (by first | (with_reducible assumption) | assumption); obtain ⟨ad281, A281_1, c281_1, e281, hx281_0, hx281_1, hl281_1, hi281_1⟩ := at_T79 HR0.out x7_1 p281 q281; obtain rfl : ad280 = ad281 := (by injection e281); have HR281_1 := am_ hi281_1; have HC281_1 := am_ hl281_1; clear hi281_1 hl281_1; replace p281 := eq_true p281; replace q281 := eq_true q281; have ea_ := si_ (hx280_1.symm.trans hx281_1); injection ea_ with ea_ en_ ec_
        subst ea_; subst ec_; clear en_; have p282 : 0 ≤ (x7_1 : Int) := ot_ (by first | (with_reducible assumption) | assumption); have q282 : x7_1 < (l0.length : Int) := ot_ (by first | (with_reducible assumption) | assumption); obtain ⟨ad282, A282_1, c282_1, e282, hx282_0, hx282_1, hl282_1, hi282_1⟩ := at_T79 HR0.out x7_1 p282 q282; obtain rfl : ad280 = ad282 := (by injection e282); have HR282_1 := am_ hi282_1; have HC282_1 := am_ hl282_1; clear hi282_1 hl282_1; replace p282 := eq_true p282; replace q282 := eq_true q282; have ea_ := si_ (hx280_1.symm.trans hx282_1); injection ea_ with ea_ en_ ec_
        subst ea_; subst ec_; clear en_; have p283 : 0 ≤ (x7_1 : Int) := ot_ (by first | (with_reducible assumption) | assumption); have q283 : x7_1 < (l0.length : Int) := ot_ (by first | (with_reducible assumption) | assumption); obtain ⟨ad283, A283_1, c283_1, e283, hx283_0, hx283_1, hl283_1, hi283_1⟩ := at_T79 HR0.out x7_1 p283 q283; obtain rfl : ad280 = ad283 := (by injection e283); have HR283_1 := am_ hi283_1; have HC283_1 := am_ hl283_1; clear hi283_1 hl283_1; replace p283 := eq_true p283; replace q283 := eq_true q283; have ea_ := si_ (hx280_1.symm.trans hx283_1); injection ea_ with ea_ en_ ec_
        subst ea_; subst ec_; clear en_; go_wp2
        go_roundg k1
        case measure => have := HK1.out; omega
        case rel => exact ⟨((rd_T79 l0 x7_1).f0), (wrap64 (x7_1 + 1)), (by first | rfl | (simp; done) | (simp [*]; done)), (by first | rfl | (simp; done) | (simp [*]; done)), H', ⟨by have := HK1.out; omega⟩, by repeat (first | exact Drawn0.refl _ | apply Drawn0.step)⟩
    ·
     rw [if_neg c5] at H; exact absurd H (by simp)
   ·
    rw [if_neg c4] at H; have c4b0 : decide (x7_1 < (l0.length : Int)) = false := df_ c4; clear c4; obtain rfl := si_ H; go_wp2; go_ret; exact ⟨by first | rfl | (simp; done) | (simp [*]; done), by repeat (first | exact Drawn0.refl _ | apply Drawn0.step)⟩
def tapearchiveref26_valid.f (k : Nat) (a0_0 : Int) (a0_1 : Int) (l0_2 : List (S79)) : Option (Bool) := if a0_0 ≥ 0 then (if a0_0 ≤ 1125899906842624 then ((tapearchiveref26_records.f k l0_2 1 a0_0).bind fun t285 => (if t285 = true then (if a0_1 ≥ 0 then (some (decide (a0_1 ≤ (l0_2.length : Int)))) else (some false)) else (some false))) else (some false)) else (some false)
set_option maxHeartbeats 8000000 in
set_option maxRecDepth 100000 in
theorem tapearchiveref26_valid.calls (k : Nat) (a0_0 : Int) (a0_1 : Int) (A0_2 : Option Addr) (c0_2 : Nat) (l0_2 : List (S79)) (r : Bool) (w : World) (hr0_2 : Kd.C k79 w A0_2 l0_2.length l0_2) (hc0_2 : l0_2.length ≤ c0_2) (h : tapearchiveref26_valid.f k a0_0 a0_1 l0_2 = some r) :
  Calls Try.prog 31 #[.agg #[.int .i64 a0_0, .int .i64 a0_1, .slice A0_2 l0_2.length c0_2]] w fun e w' => e = .returned (.bool r) ∧ Below w.heap.size w w' := by
 have hu24 := Try.underlying24; have HR0_2 := am_ hr0_2; have HC0_2 := am_ hc0_2; clear hr0_2 hc0_2; have HB := am_ (Below.refl w.heap.size w); have H : (if a0_0 ≥ 0 then (if a0_0 ≤ 1125899906842624 then ((tapearchiveref26_records.f k l0_2 1 a0_0).bind fun t285 => (if t285 = true then (if a0_1 ≥ 0 then (some (decide (a0_1 ≤ (l0_2.length : Int)))) else (some false)) else (some false))) else (some false)) else (some false)) = some r := h; clear h
 by_cases c2 : a0_0 ≥ 0
 ·
  rw [if_pos c2] at H; have c2b0 : decide (0 ≤ a0_0) = true := de_ c2; clear c2
  by_cases c3 : a0_0 ≤ 1125899906842624
  ·
   rw [if_pos c3] at H; have c3b0 : decide (a0_0 ≤ 1125899906842624) = true := de_ c3; clear c3; replace H := Option.bind_eq_some_iff.mp H; obtain ⟨t285, A40, H⟩ := H; replace H : (if t285 = true then (if a0_1 ≥ 0 then (some (decide (a0_1 ≤ (l0_2.length : Int)))) else (some false)) else (some false)) = some r := H; have A4 := am_ A40; clear A40
   by_cases c5 : t285 = true
   ·
    subst c5; have H1 : (if a0_1 ≥ 0 then (some (decide (a0_1 ≤ (l0_2.length : Int)))) else (some false)) = some r := by rw [if_pos rfl] at H; exact H
    clear H; have H := H1; clear H1
    by_cases c6 : a0_1 ≥ 0
    ·
     rw [if_pos c6] at H; have c6b0 : decide (0 ≤ a0_1) = true := de_ c6; clear c6; obtain rfl := si_ H; go_enter Try.func31, Try.ntmps31
     go_wp2_with (first | ((with_reducible refine gate_dst (N := 1) rfl ?_); (try (refine gate_guard (by rfl) ?_; dsimp only)); refine box_event ?hg (N := 1) ?hd (cs := #[.int .i64 a0_0, .int .i64 a0_1, .slice A0_2 l0_2.length c0_2]) (t := 24) ?hr ?_; (case hd => rfl); (case hg => rfl); (case hr => first | (go_simp; done) | (go_simp; rfl)); intro gb284 hg w7 hbox hb; have n0_ := am_ (sp_ (pb0_ HB.out) hb); have n1_ := am_ (hbox); have n2_ := am_ ((by rw [hg]; exact (bz_ (pb0_ HB.out)) : w.heap.size ≤ gb284)); have n3_ := am_ ((by rw [hg]; exact (bz_ (pb0_ HB.out)) : w.heap.size ≤ gb284)); clear HB; have HB := n0_; have BK284 := n1_; have GW284 := n2_; have GE284 := n3_; clear n0_ n1_ n2_ n3_; clear hb hbox hg; have hcz8_0 : w7.cell? ⟨gb284, 0, none⟩ = some (.int .i64 a0_0) := (bc_ BK284.out 0).trans rfl; have hcz8_1 : w7.cell? ⟨gb284, 1, none⟩ = some (.int .i64 a0_1) := (bc_ BK284.out 1).trans rfl; have hcz8_2 : w7.cell? ⟨gb284, 2, none⟩ = some (.slice A0_2 l0_2.length c0_2) := (bc_ BK284.out 2).trans rfl; have hfz8_0 := bf_ BK284.out 0; have hfz8_1 := bf_ BK284.out 1; have hfz8_2 := bf_ BK284.out 2) | (go_at_call 50; (with_reducible refine (tapearchiveref26_records.calls k _ _ l0_2 1 a0_0 true _ ?side1 ?side2 A4.out).mono ?_); (case side1 => repeat (first | exact (Kd.C_below HR0_2.out HB.out) | (with_reducible refine Kd.C_alloc ?_ _) | (with_reducible refine Kd.C_drewN ?_ _) | (with_reducible refine Kd.C_drew ?_))); (case side2 => exact HC0_2.out); rintro e w' ⟨rfl, ⟨nd, rfl⟩⟩))
     go_ret; exact ⟨by first | rfl | (simp [errW_none, errW_some] <;> rfl) | (simp [*, errW_none, errW_some] <;> rfl), pb1_ HB.out GE284.out⟩
    ·
     rw [if_neg c6] at H; have c6b0 : decide (0 ≤ a0_1) = false := df_ c6; clear c6; obtain rfl := si_ H; go_enter Try.func31, Try.ntmps31
     go_wp2_with (first | ((with_reducible refine gate_dst (N := 1) rfl ?_); (try (refine gate_guard (by rfl) ?_; dsimp only)); refine box_event ?hg (N := 1) ?hd (cs := #[.int .i64 a0_0, .int .i64 a0_1, .slice A0_2 l0_2.length c0_2]) (t := 24) ?hr ?_; (case hd => rfl); (case hg => rfl); (case hr => first | (go_simp; done) | (go_simp; rfl)); intro gb284 hg w9 hbox hb; have n0_ := am_ (sp_ (pb0_ HB.out) hb); have n1_ := am_ (hbox); have n2_ := am_ ((by rw [hg]; exact (bz_ (pb0_ HB.out)) : w.heap.size ≤ gb284)); have n3_ := am_ ((by rw [hg]; exact (bz_ (pb0_ HB.out)) : w.heap.size ≤ gb284)); clear HB; have HB := n0_; have BK284 := n1_; have GW284 := n2_; have GE284 := n3_; clear n0_ n1_ n2_ n3_; clear hb hbox hg; have hcz10_0 : w9.cell? ⟨gb284, 0, none⟩ = some (.int .i64 a0_0) := (bc_ BK284.out 0).trans rfl; have hcz10_1 : w9.cell? ⟨gb284, 1, none⟩ = some (.int .i64 a0_1) := (bc_ BK284.out 1).trans rfl; have hcz10_2 : w9.cell? ⟨gb284, 2, none⟩ = some (.slice A0_2 l0_2.length c0_2) := (bc_ BK284.out 2).trans rfl; have hfz10_0 := bf_ BK284.out 0; have hfz10_1 := bf_ BK284.out 1; have hfz10_2 := bf_ BK284.out 2) | (go_at_call 50; (with_reducible refine (tapearchiveref26_records.calls k _ _ l0_2 1 a0_0 true _ ?side1 ?side2 A4.out).mono ?_); (case side1 => repeat (first | exact (Kd.C_below HR0_2.out HB.out) | (with_reducible refine Kd.C_alloc ?_ _) | (with_reducible refine Kd.C_drewN ?_ _) | (with_reducible refine Kd.C_drew ?_))); (case side2 => exact HC0_2.out); rintro e w' ⟨rfl, ⟨nd, rfl⟩⟩))
     go_ret; exact ⟨by first | rfl | (simp [errW_none, errW_some] <;> rfl) | (simp [*, errW_none, errW_some] <;> rfl), pb1_ HB.out GE284.out⟩
   ·
    replace c5 := Bool.eq_false_iff.mpr c5; subst c5; have H1 : (some false) = some r := by rw [if_neg (show ¬ (false = true) by decide)] at H; exact H
    clear H; have H := H1; clear H1; obtain rfl := si_ H; go_enter Try.func31, Try.ntmps31
    go_wp2_with (first | ((with_reducible refine gate_dst (N := 1) rfl ?_); (try (refine gate_guard (by rfl) ?_; dsimp only)); refine box_event ?hg (N := 1) ?hd (cs := #[.int .i64 a0_0, .int .i64 a0_1, .slice A0_2 l0_2.length c0_2]) (t := 24) ?hr ?_; (case hd => rfl); (case hg => rfl); (case hr => first | (go_simp; done) | (go_simp; rfl)); intro gb284 hg w11 hbox hb; have n0_ := am_ (sp_ (pb0_ HB.out) hb); have n1_ := am_ (hbox); have n2_ := am_ ((by rw [hg]; exact (bz_ (pb0_ HB.out)) : w.heap.size ≤ gb284)); have n3_ := am_ ((by rw [hg]; exact (bz_ (pb0_ HB.out)) : w.heap.size ≤ gb284)); clear HB; have HB := n0_; have BK284 := n1_; have GW284 := n2_; have GE284 := n3_; clear n0_ n1_ n2_ n3_; clear hb hbox hg; have hcz12_0 : w11.cell? ⟨gb284, 0, none⟩ = some (.int .i64 a0_0) := (bc_ BK284.out 0).trans rfl; have hcz12_1 : w11.cell? ⟨gb284, 1, none⟩ = some (.int .i64 a0_1) := (bc_ BK284.out 1).trans rfl; have hcz12_2 : w11.cell? ⟨gb284, 2, none⟩ = some (.slice A0_2 l0_2.length c0_2) := (bc_ BK284.out 2).trans rfl; have hfz12_0 := bf_ BK284.out 0; have hfz12_1 := bf_ BK284.out 1; have hfz12_2 := bf_ BK284.out 2) | (go_at_call 50; (with_reducible refine (tapearchiveref26_records.calls k _ _ l0_2 1 a0_0 false _ ?side1 ?side2 A4.out).mono ?_); (case side1 => repeat (first | exact (Kd.C_below HR0_2.out HB.out) | (with_reducible refine Kd.C_alloc ?_ _) | (with_reducible refine Kd.C_drewN ?_ _) | (with_reducible refine Kd.C_drew ?_))); (case side2 => exact HC0_2.out); rintro e w' ⟨rfl, ⟨nd, rfl⟩⟩))
    go_ret; exact ⟨by first | rfl | (simp [errW_none, errW_some] <;> rfl) | (simp [*, errW_none, errW_some] <;> rfl), pb1_ HB.out GE284.out⟩
  ·
   rw [if_neg c3] at H; have c3b0 : decide (a0_0 ≤ 1125899906842624) = false := df_ c3; clear c3; obtain rfl := si_ H; go_enter Try.func31, Try.ntmps31
   go_wp2_with (first | ((with_reducible refine gate_dst (N := 1) rfl ?_); (try (refine gate_guard (by rfl) ?_; dsimp only)); refine box_event ?hg (N := 1) ?hd (cs := #[.int .i64 a0_0, .int .i64 a0_1, .slice A0_2 l0_2.length c0_2]) (t := 24) ?hr ?_; (case hd => rfl); (case hg => rfl); (case hr => first | (go_simp; done) | (go_simp; rfl)); intro gb284 hg w13 hbox hb; have n0_ := am_ (sp_ (pb0_ HB.out) hb); have n1_ := am_ (hbox); have n2_ := am_ ((by rw [hg]; exact (bz_ (pb0_ HB.out)) : w.heap.size ≤ gb284)); have n3_ := am_ ((by rw [hg]; exact (bz_ (pb0_ HB.out)) : w.heap.size ≤ gb284)); clear HB; have HB := n0_; have BK284 := n1_; have GW284 := n2_; have GE284 := n3_; clear n0_ n1_ n2_ n3_; clear hb hbox hg; have hcz14_0 : w13.cell? ⟨gb284, 0, none⟩ = some (.int .i64 a0_0) := (bc_ BK284.out 0).trans rfl; have hcz14_1 : w13.cell? ⟨gb284, 1, none⟩ = some (.int .i64 a0_1) := (bc_ BK284.out 1).trans rfl; have hcz14_2 : w13.cell? ⟨gb284, 2, none⟩ = some (.slice A0_2 l0_2.length c0_2) := (bc_ BK284.out 2).trans rfl; have hfz14_0 := bf_ BK284.out 0; have hfz14_1 := bf_ BK284.out 1; have hfz14_2 := bf_ BK284.out 2))
   go_ret; exact ⟨by first | rfl | (simp [errW_none, errW_some] <;> rfl) | (simp [*, errW_none, errW_some] <;> rfl), pb1_ HB.out GE284.out⟩
 ·
  rw [if_neg c2] at H; have c2b0 : decide (0 ≤ a0_0) = false := df_ c2; clear c2; obtain rfl := si_ H; go_enter Try.func31, Try.ntmps31
  go_wp2_with (first | ((with_reducible refine gate_dst (N := 1) rfl ?_); (try (refine gate_guard (by rfl) ?_; dsimp only)); refine box_event ?hg (N := 1) ?hd (cs := #[.int .i64 a0_0, .int .i64 a0_1, .slice A0_2 l0_2.length c0_2]) (t := 24) ?hr ?_; (case hd => rfl); (case hg => rfl); (case hr => first | (go_simp; done) | (go_simp; rfl)); intro gb284 hg w15 hbox hb; have n0_ := am_ (sp_ (pb0_ HB.out) hb); have n1_ := am_ (hbox); have n2_ := am_ ((by rw [hg]; exact (bz_ (pb0_ HB.out)) : w.heap.size ≤ gb284)); have n3_ := am_ ((by rw [hg]; exact (bz_ (pb0_ HB.out)) : w.heap.size ≤ gb284)); clear HB; have HB := n0_; have BK284 := n1_; have GW284 := n2_; have GE284 := n3_; clear n0_ n1_ n2_ n3_; clear hb hbox hg; have hcz16_0 : w15.cell? ⟨gb284, 0, none⟩ = some (.int .i64 a0_0) := (bc_ BK284.out 0).trans rfl; have hcz16_1 : w15.cell? ⟨gb284, 1, none⟩ = some (.int .i64 a0_1) := (bc_ BK284.out 1).trans rfl; have hcz16_2 : w15.cell? ⟨gb284, 2, none⟩ = some (.slice A0_2 l0_2.length c0_2) := (bc_ BK284.out 2).trans rfl; have hfz16_0 := bf_ BK284.out 0; have hfz16_1 := bf_ BK284.out 1; have hfz16_2 := bf_ BK284.out 2))
  go_ret; exact ⟨by first | rfl | (simp [errW_none, errW_some] <;> rfl) | (simp [*, errW_none, errW_some] <;> rfl), pb1_ HB.out GE284.out⟩
def tapearchiveref26_end.f (l0 : List (S79)) (a1 : Int) : Option (Int) := if a1 = 0 then (some 0) else (if 0 ≤ (wrap64 (a1 - 1)) then (if (wrap64 (a1 - 1)) < (l0.length : Int) then (some ((rd_T79 l0 (wrap64 (a1 - 1))).f0)) else (none)) else (none))
set_option maxHeartbeats 8000000 in
set_option maxRecDepth 100000 in
theorem tapearchiveref26_end.calls (A0 : Option Addr) (c0 : Nat) (l0 : List (S79)) (a1 : Int) (r : Int) (w : World) (hr0 : Kd.C k79 w A0 l0.length l0) (hc0 : l0.length ≤ c0) (h : tapearchiveref26_end.f l0 a1 = some r) :
  Calls Try.prog 32 #[.slice A0 l0.length c0, .int .i64 a1] w fun e w' => e = .returned (.int .i64 r) ∧ Drawn0 w w' := by
 have HR0 := am_ hr0; have HC0 := am_ hc0; clear hr0 hc0; have H : (if a1 = 0 then (some 0) else (if 0 ≤ (wrap64 (a1 - 1)) then (if (wrap64 (a1 - 1)) < (l0.length : Int) then (some ((rd_T79 l0 (wrap64 (a1 - 1))).f0)) else (none)) else (none))) = some r := h; clear h
 by_cases c3 : a1 = 0
 ·
  rw [if_pos c3] at H; have c3b0 : (a1 == 0) = true := beq_iff_eq.mpr c3; have c3b1 : (a1 != 0) = false := bne_eq_false_iff_eq.mpr c3; clear c3; obtain rfl := si_ H; go_enter Try.func32, Try.ntmps32; go_wp2; go_ret; exact ⟨by first | rfl | (simp; done) | (simp [*]; done), by repeat (first | exact Drawn0.refl _ | apply Drawn0.step)⟩
 ·
  rw [if_neg c3] at H; have c3b0 : (a1 == 0) = false := beq_eq_false_iff_ne.mpr c3; have c3b1 : (a1 != 0) = true := bne_iff_ne.mpr c3; obtain ⟨ji4, hji4⟩ : ∃ j_ : Int, (wrap64 (a1 - 1)) = j_ := ⟨_, rfl⟩; replace H : (if 0 ≤ (ji4) then (if (ji4) < (l0.length : Int) then (some ((rd_T79 l0 (ji4)).f0)) else (none)) else (none)) = some r := by first | (rw [hji4] at H; exact H) | (simp only [hji4] at H ⊢; exact H)
  have hji4w : (IntKind.i64.wrap (a1 - 1)) = ji4 := (i64_w _).trans hji4
  by_cases c5 : 0 ≤ (ji4)
  ·
   rw [if_pos c5] at H; have c5b0 : decide (0 ≤ (ji4)) = true := de_ c5; clear c5
   by_cases c6 : (ji4) < (l0.length : Int)
   ·
    rw [if_pos c6] at H; have c6b0 : decide ((ji4) < (l0.length : Int)) = true := de_ c6; clear c6; obtain rfl := si_ H; have p286 : 0 ≤ ((ji4) : Int) := ot_ (by first | (with_reducible assumption) | assumption); have q286 : (ji4) < (l0.length : Int) := ot_ (by first | (with_reducible assumption) | assumption); obtain ⟨ad286, A286_1, c286_1, e286, hx286_0, hx286_1, hl286_1, hi286_1⟩ := at_T79 HR0.out (ji4) p286 q286; cases e286; have HR286_1 := am_ hi286_1; have HC286_1 := am_ hl286_1; clear hi286_1 hl286_1; replace p286 := eq_true p286; replace q286 := eq_true q286; go_enter Try.func32, Try.ntmps32; go_wp2; go_ret; exact ⟨by first | rfl | (simp; done) | (simp only [← hji4] <;> (first | rfl | simp)) | (simp [*]; done), by repeat (first | exact Drawn0.refl _ | apply Drawn0.step)⟩
   ·
    rw [if_neg c6] at H; exact absurd H (by simp)
  ·
   rw [if_neg c5] at H; exact absurd H (by simp)
end Go.Proofs.Ytbigcpjlahkggaa.Q
end
section
namespace Go.Proofs.Ytbigcpjlahkggaa.Q
open Go.RowKit Go.Proofs.YtbigcpjlahkggaaW.PrintWords Go.Proofs.YtbigcpjlahkggaaW.PrintLast Go.Proofs.YtbigcpjlahkggaaW.PrintMore
attribute [local go_sem] max2_int min2_int max_two min_two max_three min_three max_four min_four
attribute [local go_sem ↓] isSome_setCell
attribute [local go_sem] string_gtr
set_option linter.unusedVariables false
set_option linter.unusedSimpArgs false
def tapearchiveref26_copied.l0 : Nat → List (S79) → List (S79) → Int → Option ((List (S79)))
 | 0, _, _, _ => none
 | k + 1, x0, x3, x4 => if x4 < (x0.length : Int) then (if 0 ≤ x4 then ((some (([] : List Int) : List Int)).bind fun y288 => (if y288.length + ((rd_T79 x0 x4).f1).length < 140737488355328 then (if x3.length < 4398046511104 then (tapearchiveref26_copied.l0 k x0 (x3 ++ [(⟨(rd_T79 x0 x4).f0, (y288 ++ ((rd_T79 x0 x4).f1))⟩ : S79)]) (wrap64 (x4 + 1))) else (none)) else (none))) else (none)) else (some x3)
def tapearchiveref26_copied.f (k : Nat) (l0 : List (S79)) : Option ((List (S79))) := tapearchiveref26_copied.l0 k l0 ([] : List (S79)) 0
def tapearchiveref26_copied.T5 : Bool × List (List Nat × List Nat) := (true, [([], []), ([], []), ([], []), ([1, 2], [1, 2]), ([3], [3]), ([4], [4]), ([], []), ([], []), ([], []), ([7, 8], [7, 8]), ([9], [9]), ([10], [10]), ([6, 11], [6, 11]), ([5, 12], [5, 12]), ([13], [13]), ([0, 14, 12], [0, 14]), ([15, 15, 0, 1, 2, 3, 4, 5, 6, 7, 8, 9, 10, 11, 12, 13, 14, 15], [0, 15])])
def tapearchiveref26_copied.B5 : List Nat := [0, 0, 0, 6, 14, 30, 0, 0, 0, 384, 896, 1920, 4032, 8190, 16382, 32767, 65535]
theorem tapearchiveref26_copied.tab5 : rtab .any (opsOf Try.f33 5) = tapearchiveref26_copied.T5 := by kernel_rfl
theorem tapearchiveref26_copied.bits5 : waitsOk tapearchiveref26_copied.T5.2 tapearchiveref26_copied.B5 = true := by kernel_rfl
set_option maxHeartbeats 8000000 in
set_option maxRecDepth 100000 in
theorem tapearchiveref26_copied.calls (k : Nat) (A0 : Option Addr) (c0 : Nat) (l0 : List (S79)) (r : List (S79)) (w : World) (hr0 : Kd.C k79 w A0 l0.length l0) (hc0 : l0.length ≤ c0) (h : tapearchiveref26_copied.f k l0 = some r) :
  Calls Try.prog 33 #[.slice A0 l0.length c0] w fun e w' => ∃ v0_ : Value, e = .returned (v0_) ∧ Kd.S k79 79 w' w.heap.size (fun _ => True) v0_ r ∧ Below w.heap.size w w' := by
 have hu79 := Try.underlying79; have HR0 := am_ hr0; have HC0 := am_ hc0; clear hr0 hc0; have HB := am_ (Below.refl w.heap.size w); have H : (tapearchiveref26_copied.l0 k l0 ([] : List (S79)) 0) = some r := h; clear h; have H' := am_ H; clear H; go_enter Try.func33, Try.ntmps33; go_wp2
 go_loopg [3, 4] k (fun kq v3 v4 w' => ∃ (x3_1 : List (S79)) (x4_1 : Int), v4 = .int .i64 x4_1 ∧ Aside0 (tapearchiveref26_copied.l0 kq l0 x3_1 x4_1 = some r) ∧ Aside0 (kq ≤ k) ∧ Aside0 (Kd.S k79 79 w' w.heap.size (fun _ => True) v3 x3_1) ∧ Aside0 (Below w.heap.size w w'))
 case atStart => exact ⟨(([] : List (S79))), (0), (by first | rfl | (simp; done) | (simp [*]; done)), H', ⟨Nat.le_refl _⟩, ⟨by first | exact Kd.S_nil _ _ _ _ _ | exact Kd.N_nil _ _ _ _ _ | exact Kd.V_nil _ _ _ _ _ | exact Kd.Q_nil _ _ _ _ _ | exact Kd.R_nil _ _ _ _ _⟩, ⟨pb0_ HB.out⟩⟩
 case round =>
  clear H'; obtain ⟨x3_1, x4_1, rfl, HA, HK1, HO_3, HB⟩ := hrel; cases gk with
  | zero => exact absurd HA.out (by simp [tapearchiveref26_copied.l0])
  | succ k1 =>
   have H := HA.out; clear HA; simp only [tapearchiveref26_copied.l0] at H
   by_cases c2 : x4_1 < (l0.length : Int)
   ·
    rw [if_pos c2] at H; have c2b0 : decide (x4_1 < (l0.length : Int)) = true := de_ c2; clear c2
    by_cases c3 : 0 ≤ x4_1
    ·
     rw [if_pos c3] at H; have c3b0 : decide (0 ≤ x4_1) = true := de_ c3; clear c3; obtain ⟨y288, hy288⟩ : ∃ y_ : List Int, y_ = (([] : List Int)) := ⟨_, rfl⟩; replace H : (if y288.length + ((rd_T79 l0 x4_1).f1).length < 140737488355328 then (if x3_1.length < 4398046511104 then (tapearchiveref26_copied.l0 k1 l0 (x3_1 ++ [(⟨(rd_T79 l0 x4_1).f0, (y288 ++ ((rd_T79 l0 x4_1).f1))⟩ : S79)]) (wrap64 (x4_1 + 1))) else (none)) else (none)) = some r := by first | (rw [hy288]; with_reducible exact H) | (have H2_ := (Option.bind_some _ _).symm.trans H; rw [hy288]; with_reducible exact H2_) | (have H2_ := (Option.bind_some _ _).symm.trans H; with_reducible exact H2_) | with_reducible exact H | (rw [hy288]; exact H) | exact H
     have Ny288 := am_ hy288; clear hy288
     by_cases c4 : y288.length + ((rd_T79 l0 x4_1).f1).length < 140737488355328
     ·
      rw [if_pos c4] at H; have LMc4 := am_ c4; clear c4; obtain ⟨y292, hy292⟩ : ∃ y_ : List Int, y_ = (y288 ++ ((rd_T79 l0 x4_1).f1)) := ⟨_, rfl⟩; replace H : (if x3_1.length < 4398046511104 then (tapearchiveref26_copied.l0 k1 l0 (x3_1 ++ [(⟨(rd_T79 l0 x4_1).f0, y292⟩ : S79)]) (wrap64 (x4_1 + 1))) else (none)) = some r := by first | (rw [hy292]; with_reducible exact H) | (have H2_ := (Option.bind_some _ _).symm.trans H; rw [hy292]; with_reducible exact H2_) | (have H2_ := (Option.bind_some _ _).symm.trans H; with_reducible exact H2_) | with_reducible exact H | (rw [hy292]; exact H) | exact H
      have Ny292 := am_ hy292; clear hy292
      by_cases c5 : x3_1.length < 4398046511104
      ·
       rw [if_pos c5] at H; have LMc5 := am_ c5; clear c5; obtain ⟨y295, hy295⟩ : ∃ y_ : List (S79), y_ = (x3_1 ++ [(⟨(rd_T79 l0 x4_1).f0, y292⟩ : S79)]) := ⟨_, rfl⟩; replace H : (tapearchiveref26_copied.l0 k1 l0 y295 (wrap64 (x4_1 + 1))) = some r := by first | (rw [hy295]; with_reducible exact H) | (have H2_ := (Option.bind_some _ _).symm.trans H; rw [hy295]; with_reducible exact H2_) | (have H2_ := (Option.bind_some _ _).symm.trans H; with_reducible exact H2_) | with_reducible exact H | (rw [hy295]; exact H) | exact H
       have Ny295 := am_ hy295; clear hy295; have H' := am_ H; clear H
       try go_wp2
       have n0_ := am_ (Kd.S_drew HO_3.out); have n1_ := am_ (b1_ HB.out); clear HO_3; clear HB; have HO_3 := n0_; have HB := n1_; clear n0_ n1_; have p287 : 0 ≤ (x4_1 : Int) := ot_ (by first | (with_reducible assumption) | assumption); have q287 : x4_1 < (l0.length : Int) := ot_ (by first | (with_reducible assumption) | assumption); obtain ⟨ad287, A287_1, c287_1, e287, hx287_0, hx287_1, hl287_1, hi287_1⟩ := at_T79 HR0.out x4_1 p287 q287; have hw287_1 := hx287_1; have hw287_0 := hx287_0; cases e287; replace hx287_0 := (HB.out.cell (bk_ w _ hx287_0)).trans hx287_0; replace hx287_1 := (HB.out.cell (bk_ w _ hx287_1)).trans hx287_1; have HR287_1 := am_ hi287_1; have HC287_1 := am_ hl287_1; clear hi287_1 hl287_1; replace p287 := eq_true p287; replace q287 := eq_true q287; have p291 : 0 ≤ (x4_1 : Int) := ot_ (by first | (with_reducible assumption) | assumption); have q291 : x4_1 < (l0.length : Int) := ot_ (by first | (with_reducible assumption) | assumption); obtain ⟨ad291, A291_1, c291_1, e291, hx291_0, hx291_1, hl291_1, hi291_1⟩ := at_T79 HR0.out x4_1 p291 q291; have hw291_1 := hx291_1; have hw291_0 := hx291_0; obtain rfl : ad287 = ad291 := (by injection e291); replace hx291_0 := (HB.out.cell (bk_ w _ hx291_0)).trans hx291_0; replace hx291_1 := (HB.out.cell (bk_ w _ hx291_1)).trans hx291_1; have HR291_1 := am_ hi291_1; have HC291_1 := am_ hl291_1; clear hi291_1 hl291_1; replace p291 := eq_true p291; replace q291 := eq_true q291; have ea_ := si_ (hx287_1.symm.trans hx291_1); injection ea_ with ea_ en_ ec_
       subst ea_; subst ec_; clear en_; refine start_ (n := 17) (S := fun w' => w'.cell? (ad287.add ((x4_1).toNat * 2)) = some (.int .i64 ((rd_T79 l0 x4_1).f0)) ∧ w'.cell? ⟨(ad287.add ((x4_1).toNat * 2)).block, (ad287.add ((x4_1).toNat * 2)).off + 1, none⟩ = some (.slice A287_1 ((rd_T79 l0 x4_1).f1).length c287_1) ∧ w'.cell? (ad287.add ((x4_1).toNat * 2)) = some (.int .i64 ((rd_T79 l0 x4_1).f0)) ∧ w'.cell? ⟨(ad287.add ((x4_1).toNat * 2)).block, (ad287.add ((x4_1).toNat * 2)).off + 1, none⟩ = some (.slice A287_1 ((rd_T79 l0 x4_1).f1).length c287_1)) (ds := []) #[false, false, false, false, false, false, false, false, false, false, false, false, false, false, false, false, false] (by kernel_rfl) rfl rfl ⟨((HB.out.cell (bk_ w _ hw287_0)).trans hw287_0), ((HB.out.cell (bk_ w _ hw287_1)).trans hw287_1), ((HB.out.cell (bk_ w _ hw291_0)).trans hw291_0), ((HB.out.cell (bk_ w _ hw291_1)).trans hw291_1)⟩ (fun hHeld => ?_); refine with_tabW tapearchiveref26_copied.tab5 tapearchiveref26_copied.bits5 (fun HT_ HW_ => ?_); generalize wr.drew = w6 at HO_3 HB HR287_1 HR291_1 hx287_0 hx287_1 hx291_0 hx291_1 hHeld ⊢; refine pure_ (i := 0) (N := some 11) (v := ?_) (a' := ?_) #[true, false, false, false, false, false, false, false, false, false, false, false, false, false, false, false, false] rfl rfl (any_of HT_.out (by kernel_rfl)) (fun _ _ _ h => h) (Or.inl ⟨by rfl, ?_⟩) ?_ ?_; rotate_left; (intro w'; go_simp; with_reducible rfl); rotate_left; (simp only [Act.put, lt1_, lt2_, lt3_, i64_w, i32_w]; rfl); refine pure_ (i := 1) (N := some 12) (v := ?_) (a' := ?_) #[true, true, false, false, false, false, false, false, false, false, false, false, false, false, false, false, false] rfl rfl (any_of HT_.out (by kernel_rfl)) (fun _ _ _ h => h) (Or.inl ⟨by rfl, ?_⟩) ?_ ?_; rotate_left; (intro w'; go_simp; with_reducible rfl); rotate_left; (simp only [Act.put, lt1_, lt2_, lt3_, i64_w, i32_w]; rfl); refine pure_ (i := 2) (N := some 13) (v := ?_) (a' := ?_) #[true, true, true, false, false, false, false, false, false, false, false, false, false, false, false, false, false] rfl rfl (any_of HT_.out (by kernel_rfl)) (fun _ _ _ h => h) (Or.inl ⟨by rfl, ?_⟩) ?_ ?_; rotate_left; (intro w'; go_simp; with_reducible rfl); rotate_left; (simp only [Act.put, lt1_, lt2_, lt3_, i64_w, i32_w]; rfl); refine pure_ (i := 3) (N := some 14) (v := ?_) (a' := ?_) #[true, true, true, true, false, false, false, false, false, false, false, false, false, false, false, false, false] rfl rfl (any_of HT_.out (by kernel_rfl)) (fun _ _ _ h => h) (Or.inl ⟨by rfl, ?_⟩) ?_ ?_; rotate_left; (intro w'; go_simp; with_reducible rfl); rotate_left; (simp only [Act.put, lt1_, lt2_, lt3_, i64_w, i32_w]; rfl); refine pure_ (i := 4) (N := some 15) (v := ?_) (a' := ?_) #[true, true, true, true, true, false, false, false, false, false, false, false, false, false, false, false, false] rfl rfl (any_of HT_.out (by kernel_rfl)) (fun _ _ _ h => h) (Or.inl ⟨by rfl, ?_⟩) ?_ ?_
       rotate_left; (intro w'; go_simp; with_reducible rfl); rotate_left; (simp only [Act.put, lt1_, lt2_, lt3_, i64_w, i32_w]; rfl); refine pure_ (i := 7) (N := some 18) (v := ?_) (a' := ?_) #[true, true, true, true, true, false, false, true, false, false, false, false, false, false, false, false, false] rfl rfl (any_of HT_.out (by kernel_rfl)) (fun _ _ _ h => h) (Or.inl ⟨by rfl, ?_⟩) ?_ ?_; rotate_left; (intro w'; go_simp; with_reducible rfl); rotate_left; (simp only [Act.put, lt1_, lt2_, lt3_, i64_w, i32_w]; rfl); refine pure_ (i := 8) (N := some 19) (v := ?_) (a' := ?_) #[true, true, true, true, true, false, false, true, true, false, false, false, false, false, false, false, false] rfl rfl (any_of HT_.out (by kernel_rfl)) (fun _ _ _ h => h) (Or.inl ⟨by rfl, ?_⟩) ?_ ?_; rotate_left; (intro w'; go_simp; with_reducible rfl); rotate_left; (simp only [Act.put, lt1_, lt2_, lt3_, i64_w, i32_w]; rfl); refine pure_ (i := 9) (N := some 20) (v := ?_) (a' := ?_) #[true, true, true, true, true, false, false, true, true, true, false, false, false, false, false, false, false] rfl rfl (any_of HT_.out (by kernel_rfl)) (fun _ _ _ h => h) (Or.inl ⟨by rfl, ?_⟩) ?_ ?_; rotate_left; (intro w'; go_simp; with_reducible rfl); rotate_left; (simp only [Act.put, lt1_, lt2_, lt3_, i64_w, i32_w]; rfl); refine pure_ (i := 10) (N := some 21) (v := ?_) (a' := ?_) #[true, true, true, true, true, false, false, true, true, true, true, false, false, false, false, false, false] rfl rfl (any_of HT_.out (by kernel_rfl)) (fun _ _ _ h => h) (Or.inl ⟨by rfl, ?_⟩) ?_ ?_; rotate_left; (intro w'; go_simp; with_reducible rfl); rotate_left; (simp only [Act.put, lt1_, lt2_, lt3_, i64_w, i32_w]; rfl); refine take_ (i := 5) (N := some 16) (v := ?_) (a' := ?_) #[true, true, true, true, true, true, false, true, true, true, true, false, false, false, false, false, false] rfl rfl (take_ofW HT_.out HW_.out (by kernel_rfl)) (fun _ _ _ h => h) (Or.inl ⟨by rfl, ?_⟩) hHeld ?_ ?_; rotate_left
       ·
        rintro w' ⟨s0, s1, s2, s3⟩; go_simp; with_reducible rfl
       rotate_left
       ·
        simp only [Act.put, lt1_, lt2_, lt3_, i64_w, i32_w]; rfl
       refine take_ (i := 11) (N := some 22) (v := ?_) (a' := ?_) #[true, true, true, true, true, true, false, true, true, true, true, true, false, false, false, false, false] rfl rfl (take_ofW HT_.out HW_.out (by kernel_rfl)) (fun _ _ _ h => h) (Or.inl ⟨by rfl, ?_⟩) hHeld ?_ ?_; rotate_left
       ·
        rintro w' ⟨s0, s1, s2, s3⟩; go_simp; with_reducible rfl
       rotate_left
       ·
        simp only [Act.put, lt1_, lt2_, lt3_, i64_w, i32_w]; rfl
       refine one_ (i := 6) (N := some 17) #[true, true, true, true, true, true, true, true, true, true, true, true, false, false, false, false, false] rfl rfl (one_of HT_.out (by kernel_rfl)) (by decide) (fun K hK => ?_); refine Kd.R_lit_step (Kd.int .u8) _ 5 ?hg (N := 17) ?hd (xs := ([] : List Int)) (inner := []) (ok := fun _ => True) (okp := fun _ => True) ?hr ?hp (fun _ hk => hk) trivial (Below.refl _ _) (Nat.le_refl _) (by simp) ?_; (case hd => rfl); (case hg => rfl); (case hr => first | (go_simp; done) | (go_simp; rfl)); (case hp => exact (Reps.none _ _)); intro v289 w7 ho8 hb hg_ hnew_; clear hg_ hnew_
       (first | rw [← Ny288.out] at ho8 | (simp only [Int.reduceToNat] at ho8; rw [← Ny288.out] at ho8))
       have n0_ := am_ (Kd.S_elder' (pS_ HO_3.out) (Kd.R_base ho8) hb); have n1_ := am_ (Kd.R_lower ho8 (bz_ (pb0_ HB.out))); have n2_ := am_ (sp_ (pb0_ HB.out) hb); clear HO_3; clear HB; have HO_3 := n0_; have HO290 := n1_; have HB := n2_; clear n0_ n1_ n2_; clear hb ho8; refine hK.out _ _ ⟨((HB.out.cell (bk_ w _ hw287_0)).trans hw287_0), ((HB.out.cell (bk_ w _ hw287_1)).trans hw287_1), ((HB.out.cell (bk_ w _ hw291_0)).trans hw291_0), ((HB.out.cell (bk_ w _ hw291_1)).trans hw291_1)⟩ (fun hHeld => ?_); clear hK K; refine norm_ (a' := ?_) ?_ ?_; rotate_left
       ·
        show Act.put _ (some 17) _ = _
        simp only [Act.put, lt1_, lt2_, lt3_, i64_w, i32_w]; rfl
       refine one_ (i := 12) (N := some 23) #[true, true, true, true, true, true, true, true, true, true, true, true, true, false, false, false, false] rfl rfl (one_of HT_.out (by kernel_rfl)) (by decide) (fun K hK => ?_); refine Kd.R_append_rows_step (Kd.int .u8) (w0 := w) w.heap.size (by rfl) (.tmp 17) (.tmp 22) 25 5 (.int .u8 0) 1 rfl Try.underlying25 info5 rfl (by decide) (by omega) v289 y288 ((rd_T79 l0 x4_1).f1) _ _ _ (fun _ => True) (fun _ => False) rfl rfl ?aO ?aR (fun _ _ h => h) (fun _ h => h.elim) ?aF ?aB ?aS ?aL ?_
       (case aR => repeat (first | exact (Kd.C_below HR291_1.out HB.out) | (with_reducible refine Kd.C_alloc ?_ _) | (with_reducible refine Kd.C_drewN ?_ _) | (with_reducible refine Kd.C_drew ?_)))
       (case aB => exact (pb0_ HB.out))
       (case aF => exact (fun _ _ => trivial))
       (case aO => exact (pR_ HO290.out))
       (case aS => exact (bz_ (pb0_ HB.out)))
       (case aL => have := LMc4.out; omega)
       intro v293 w9 ho hb hg hat; rw [← Ny292.out] at ho; have n0_ := am_ (Kd.S_after (ok := (fun _ => True)) (pS_ HO_3.out) hg hat); have n1_ := am_ (hb); have n2_ := am_ (ho); clear HO_3; clear HB; clear HO290; have HO_3 := n0_; have HB := n1_; have HO294 := n2_; clear n0_ n1_ n2_; clear ho hb hg hat; obtain ⟨Ao10, co10, eo10⟩ := Kd.R_slice HO294.out
       (first | subst eo10 | (injection eo10 with f1_ f2_ f3_; have f4_ := f1_.symm; have f5_ := f3_.symm; clear f1_ f2_ f3_; subst f4_; subst f5_))
       refine hK.out _ _ ⟨((HB.out.cell (bk_ w _ hw287_0)).trans hw287_0), ((HB.out.cell (bk_ w _ hw287_1)).trans hw287_1), ((HB.out.cell (bk_ w _ hw291_0)).trans hw291_0), ((HB.out.cell (bk_ w _ hw291_1)).trans hw291_1)⟩ (fun hHeld => ?_); clear hK K; refine norm_ (a' := ?_) ?_ ?_; rotate_left
       ·
        show Act.put _ (some 23) _ = _
        simp only [Act.put, lt1_, lt2_, lt3_, i64_w, i32_w]; rfl
       refine pure_ (i := 13) (N := some 24) (v := ?_) (a' := ?_) #[true, true, true, true, true, true, true, true, true, true, true, true, true, true, false, false, false] rfl rfl (any_of HT_.out (by kernel_rfl)) (fun _ _ _ h => h) (Or.inl ⟨by rfl, ?_⟩) ?_ ?_; rotate_left; (intro w'; go_simp; with_reducible rfl); rotate_left; (simp only [Act.put, lt1_, lt2_, lt3_, i64_w, i32_w]; rfl); refine one_ (i := 14) (N := some 25) #[true, true, true, true, true, true, true, true, true, true, true, true, true, true, true, false, false] rfl rfl (one_of HT_.out (by kernel_rfl)) (by decide) (fun K hK => ?_); refine value_ (w1 := ?_) (v := ?_) (by rfl) rfl ?_ ?_; rotate_left 2
       ·
        go_simp
        constructor
        ·
         rfl
        ·
         rfl
       refine hK.out _ _ ⟨(World.cell?_alloc_lt _ _ _ (bk_ _ _ (((HB.out.cell (bk_ w _ hw287_0)).trans hw287_0)))).trans (((HB.out.cell (bk_ w _ hw287_0)).trans hw287_0)), (World.cell?_alloc_lt _ _ _ (bk_ _ _ (((HB.out.cell (bk_ w _ hw287_1)).trans hw287_1)))).trans (((HB.out.cell (bk_ w _ hw287_1)).trans hw287_1)), (World.cell?_alloc_lt _ _ _ (bk_ _ _ (((HB.out.cell (bk_ w _ hw291_0)).trans hw291_0)))).trans (((HB.out.cell (bk_ w _ hw291_0)).trans hw291_0)), (World.cell?_alloc_lt _ _ _ (bk_ _ _ (((HB.out.cell (bk_ w _ hw291_1)).trans hw291_1)))).trans (((HB.out.cell (bk_ w _ hw291_1)).trans hw291_1))⟩ (fun hHeld => ?_); clear hK K; refine norm_ (a' := ?_) ?_ ?_; rotate_left
       ·
        show Act.put _ (some 25) _ = _
        simp only [Act.put, lt1_, lt2_, lt3_, i64_w, i32_w]; rfl
       refine one_ (i := 15) (N := some 26) #[true, true, true, true, true, true, true, true, true, true, true, true, true, true, true, true, false] rfl rfl (one_of HT_.out (by kernel_rfl)) (by decide) (fun K hK => ?_); refine Kd.S_append_step k79 (w0 := w) w.heap.size (by rfl) (.tmp 11) (.tmp 25) 22 79 (.agg #[(.int .i64 0), (.slice none 0 0)]) 32 rfl Try.underlying22 info79 rfl (by decide) (by omega) u3 x3_1 (⟨(rd_T79 l0 x4_1).f0, y292⟩ : S79) [.int .i64 ((rd_T79 l0 x4_1).f0), .slice Ao10 y292.length co10] (fun _ => True) (fun k_ => some k_ = (.slice Ao10 y292.length co10 : Value).ownBlock) rfl rfl ?aP (fun k_ hk_ => ((Kd.R_mono (ok' := fun k_ => ((fun _ => True)) k_ ∧ some k_ ≠ (u3 : Value).ownBlock) (Kd.R_apart' (HO294.out) (Kd.S_typed HO_3.out) (by decide)) (fun k_ hk => ⟨trivial, hk.2⟩))).1 k_ hk_.symm) ?aF ?aO ?aB ?aS ?aL ?_
       (case aP => exact k79_mkM _ _ _ (⟨(rd_T79 l0 x4_1).f0, y292⟩ : S79) (Kd.R_mono (Kd.R_tight rfl (Kd.R_mono (ok' := fun k_ => ((fun _ => True)) k_ ∧ some k_ ≠ (u3 : Value).ownBlock) (Kd.R_apart' (HO294.out) (Kd.S_typed HO_3.out) (by decide)) (fun k_ hk => ⟨trivial, hk.2⟩))) (fun _ h_ => h_)))
       (case aB => exact (pb0_ HB.out))
       (case aF => exact (fun _ _ => trivial))
       (case aO => exact (by (with_reducible repeat (first | apply Kd.S_alloc | apply Kd.S_drewN | apply Kd.S_drew)); exact Kd.S_mono HO_3.out (fun k_ hk => ⟨trivial, fun e_ => hk.2 e_⟩)))
       (case aS => exact (bz_ (pb0_ HB.out)))
       (case aL => have := LMc5.out; omega)
       intro v296 w11 ho hb hg hat; rw [← Ny295.out] at ho; have n0_ := am_ (hb); have n1_ := am_ (ho); clear HB; clear HO_3; clear HO294; have HB := n0_; have HO297 := n1_; clear n0_ n1_; clear ho hb hg hat; refine hK.out _ _ ⟨((HB.out.cell (bk_ w _ hw287_0)).trans hw287_0), ((HB.out.cell (bk_ w _ hw287_1)).trans hw287_1), ((HB.out.cell (bk_ w _ hw291_0)).trans hw291_0), ((HB.out.cell (bk_ w _ hw291_1)).trans hw291_1)⟩ (fun hHeld => ?_); clear hK K; refine norm_ (a' := ?_) ?_ ?_; rotate_left
       ·
        show Act.put _ (some 26) _ = _
        simp only [Act.put, lt1_, lt2_, lt3_, i64_w, i32_w]; rfl
       refine pure_ (i := 16) (N := some 3) (v := ?_) (a' := ?_) #[true, true, true, true, true, true, true, true, true, true, true, true, true, true, true, true, true] rfl rfl (any_of HT_.out (by kernel_rfl)) (fun _ _ _ h => h) (Or.inl ⟨by rfl, ?_⟩) ?_ ?_; rotate_left; (intro w'; go_simp; with_reducible rfl); rotate_left; (simp only [Act.put, lt1_, lt2_, lt3_, i64_w, i32_w]; rfl); refine done_ (done_of HT_.out (by kernel_rfl)) ?_
       try go_wp2
       go_roundg k1
       case measure => have := HK1.out; omega
       case rel => exact ⟨(y295), (wrap64 (x4_1 + 1)), (by first | rfl | (simp; done) | (simp [*]; done)), H', ⟨by have := HK1.out; omega⟩, ⟨by (with_reducible repeat (first | apply Kd.S_alloc | apply Kd.S_drewN | apply Kd.S_drew)); exact HO297.out⟩, ⟨pb0_ HB.out⟩⟩
      ·
       rw [if_neg c5] at H; exact absurd H (by simp)
     ·
      rw [if_neg c4] at H; exact absurd H (by simp)
    ·
     rw [if_neg c3] at H; exact absurd H (by simp)
   ·
    rw [if_neg c2] at H; have c2b0 : decide (x4_1 < (l0.length : Int)) = false := df_ c2; clear c2; obtain rfl := si_ H; go_wp2; go_ret; exact ⟨_, by first | rfl | (simp [errW_none, errW_some] <;> rfl) | (simp [*, errW_none, errW_some] <;> rfl), by (with_reducible repeat (first | apply Kd.S_alloc | apply Kd.S_drewN | apply Kd.S_drew)); exact HO_3.out, pb0_ HB.out⟩
end Go.Proofs.Ytbigcpjlahkggaa.Q
end
