import Derived.Test.YtbigcpjlahkggaaKReplicaOffers11
set_option linter.unusedVariables false
set_option linter.unusedSimpArgs false
namespace Go.Proofs.Ytbigcpjlahkggaa.Q
open Go.RowKit Go.Proofs.YtbigcpjlahkggaaW.PrintWords Go.Proofs.YtbigcpjlahkggaaW.PrintLast Go.Proofs.YtbigcpjlahkggaaW.PrintMore
attribute [local go_sem] max2_int min2_int max_two min_two max_three min_three max_four min_four
attribute [local go_sem ↓] isSome_setCell
attribute [local go_sem] string_gtr
set_option linter.unusedVariables false
set_option linter.unusedSimpArgs false
def tapearchiveref26_copied.l0 : Nat → List (S79) → List (S79) → Int → Option ((List (S79)))
 | 0, _, _, _ => none
 | k + 1, x0, x3, x4 => if x4 < (x0.length : Int) then (if 0 ≤ x4 then ((some (([] : List Int) : List Int)).bind fun y288 => (if y288.length + ((rd_T79 x0 x4).f1).length < 140737488355328 then (if x3.length < 4398046511104 then (tapearchiveref26_copied.l0 k x0 (x3 ++ [(⟨(rd_T79 x0 x4).f0, (y288 ++ ((rd_T79 x0 x4).f1))⟩ : S79)]) (wrap64 (x4 + 1))) else (none)) else (none))) else (none)) else (some x3)
def tapearchiveref26_copied.f (k : Nat) (l0 : List (S79)) : Option ((List (S79))) := tapearchiveref26_copied.l0 k l0 ([] : List (S79)) 0
def tapearchiveref26_copied.T5 : Bool × List (List Nat × List Nat) := (true, [([], []), ([], []), ([], []), ([1, 2], [1, 2]), ([3], [3]), ([4], [4]), ([], []), ([], []), ([], []), ([7, 8], [7, 8]), ([9], [9]), ([10], [10]), ([6, 11], [6, 11]), ([5, 12], [5, 12]), ([13], [13]), ([0, 14, 12], [0, 14]), ([15, 15, 0, 1, 2, 3, 4, 5, 6, 7, 8, 9, 10, 11, 12, 13, 14, 15], [0, 15])])
def tapearchiveref26_copied.B5 : List Nat := [0, 0, 0, 6, 14, 30, 0, 0, 0, 384, 896, 1920, 4032, 8190, 16382, 32767, 65535]
theorem tapearchiveref26_copied.tab5 : rtab .any (opsOf Try.f33 5) = tapearchiveref26_copied.T5 := by kernel_rfl
theorem tapearchiveref26_copied.bits5 : waitsOk tapearchiveref26_copied.T5.2 tapearchiveref26_copied.B5 = true := by kernel_rfl
set_option maxHeartbeats 8000000 in
set_option maxRecDepth 100000 in
theorem tapearchiveref26_copied.calls (k : Nat) (A0 : Option Addr) (c0 : Nat) (l0 : List (S79)) (r : List (S79)) (w : World) (hr0 : Kd.C k79 w A0 l0.length l0) (hc0 : l0.length ≤ c0) (h : tapearchiveref26_copied.f k l0 = some r) :
  Calls Try.prog 33 #[.slice A0 l0.length c0] w fun e w' => ∃ v0_ : Value, e = .returned (v0_) ∧ Kd.S k79 79 w' w.heap.size (fun _ => True) v0_ r ∧ Below w.heap.size w w' := by
 have hu79 := Try.underlying79
 have HR0 := am_ hr0
 have HC0 := am_ hc0
 clear hr0 hc0
 have HB := am_ (Below.refl w.heap.size w)
 have H : (tapearchiveref26_copied.l0 k l0 ([] : List (S79)) 0) = some r := h
 clear h
 have H' := am_ H
 clear H
 go_enter Try.func33, Try.ntmps33
 go_wp2
 go_loopg [3, 4] k (fun kq v3 v4 w' => ∃ (x3_1 : List (S79)) (x4_1 : Int), v4 = .int .i64 x4_1 ∧ Aside0 (tapearchiveref26_copied.l0 kq l0 x3_1 x4_1 = some r) ∧ Aside0 (kq ≤ k) ∧ Aside0 (Kd.S k79 79 w' w.heap.size (fun _ => True) v3 x3_1) ∧ Aside0 (Below w.heap.size w w'))
 case atStart => exact ⟨(([] : List (S79))), (0), (by first | rfl | (simp; done) | (simp [*]; done)), H', ⟨Nat.le_refl _⟩, ⟨by first | exact Kd.S_nil _ _ _ _ _ | exact Kd.N_nil _ _ _ _ _ | exact Kd.V_nil _ _ _ _ _ | exact Kd.Q_nil _ _ _ _ _ | exact Kd.R_nil _ _ _ _ _⟩, ⟨pb0_ HB.out⟩⟩
 case round =>
  clear H'
  obtain ⟨x3_1, x4_1, rfl, HA, HK1, HO_3, HB⟩ := hrel
  cases gk with
  | zero => exact absurd HA.out (by simp [tapearchiveref26_copied.l0])
  | succ k1 =>
   have H := HA.out
   clear HA
   simp only [tapearchiveref26_copied.l0] at H
   by_cases c2 : x4_1 < (l0.length : Int)
   ·
    rw [if_pos c2] at H
    have c2b0 : decide (x4_1 < (l0.length : Int)) = true := de_ c2
    clear c2
    by_cases c3 : 0 ≤ x4_1
    ·
     rw [if_pos c3] at H
     have c3b0 : decide (0 ≤ x4_1) = true := de_ c3
     clear c3
     obtain ⟨y288, hy288⟩ : ∃ y_ : List Int, y_ = (([] : List Int)) := ⟨_, rfl⟩
     replace H : (if y288.length + ((rd_T79 l0 x4_1).f1).length < 140737488355328 then (if x3_1.length < 4398046511104 then (tapearchiveref26_copied.l0 k1 l0 (x3_1 ++ [(⟨(rd_T79 l0 x4_1).f0, (y288 ++ ((rd_T79 l0 x4_1).f1))⟩ : S79)]) (wrap64 (x4_1 + 1))) else (none)) else (none)) = some r := by first | (rw [hy288]; with_reducible exact H) | (have H2_ := (Option.bind_some _ _).symm.trans H; rw [hy288]; with_reducible exact H2_) | (have H2_ := (Option.bind_some _ _).symm.trans H; with_reducible exact H2_) | with_reducible exact H | (rw [hy288]; exact H) | exact H
     have Ny288 := am_ hy288
     clear hy288
     by_cases c4 : y288.length + ((rd_T79 l0 x4_1).f1).length < 140737488355328
     ·
      rw [if_pos c4] at H
      have LMc4 := am_ c4
      clear c4
      obtain ⟨y292, hy292⟩ : ∃ y_ : List Int, y_ = (y288 ++ ((rd_T79 l0 x4_1).f1)) := ⟨_, rfl⟩
      replace H : (if x3_1.length < 4398046511104 then (tapearchiveref26_copied.l0 k1 l0 (x3_1 ++ [(⟨(rd_T79 l0 x4_1).f0, y292⟩ : S79)]) (wrap64 (x4_1 + 1))) else (none)) = some r := by first | (rw [hy292]; with_reducible exact H) | (have H2_ := (Option.bind_some _ _).symm.trans H; rw [hy292]; with_reducible exact H2_) | (have H2_ := (Option.bind_some _ _).symm.trans H; with_reducible exact H2_) | with_reducible exact H | (rw [hy292]; exact H) | exact H
      have Ny292 := am_ hy292
      clear hy292
      by_cases c5 : x3_1.length < 4398046511104
      ·
       rw [if_pos c5] at H
       have LMc5 := am_ c5
       clear c5
       obtain ⟨y295, hy295⟩ : ∃ y_ : List (S79), y_ = (x3_1 ++ [(⟨(rd_T79 l0 x4_1).f0, y292⟩ : S79)]) := ⟨_, rfl⟩
       replace H : (tapearchiveref26_copied.l0 k1 l0 y295 (wrap64 (x4_1 + 1))) = some r := by first | (rw [hy295]; with_reducible exact H) | (have H2_ := (Option.bind_some _ _).symm.trans H; rw [hy295]; with_reducible exact H2_) | (have H2_ := (Option.bind_some _ _).symm.trans H; with_reducible exact H2_) | with_reducible exact H | (rw [hy295]; exact H) | exact H
       have Ny295 := am_ hy295
       clear hy295
       have H' := am_ H
       clear H
       try go_wp2
       have n0_ := am_ (Kd.S_drew HO_3.out)
       have n1_ := am_ (b1_ HB.out)
       clear HO_3
       clear HB
       have HO_3 := n0_
       have HB := n1_
       clear n0_ n1_
       have p287 : 0 ≤ (x4_1 : Int) := ot_ (by first | (with_reducible assumption) | assumption)
       have q287 : x4_1 < (l0.length : Int) := ot_ (by first | (with_reducible assumption) | assumption)
       obtain ⟨ad287, A287_1, c287_1, e287, hx287_0, hx287_1, hl287_1, hi287_1⟩ := at_T79 HR0.out x4_1 p287 q287
       have hw287_1 := hx287_1
       have hw287_0 := hx287_0
       cases e287
       replace hx287_0 := (HB.out.cell (bk_ w _ hx287_0)).trans hx287_0
       replace hx287_1 := (HB.out.cell (bk_ w _ hx287_1)).trans hx287_1
       have HR287_1 := am_ hi287_1
       have HC287_1 := am_ hl287_1
       clear hi287_1 hl287_1
       replace p287 := eq_true p287
       replace q287 := eq_true q287
       have p291 : 0 ≤ (x4_1 : Int) := ot_ (by first | (with_reducible assumption) | assumption)
       have q291 : x4_1 < (l0.length : Int) := ot_ (by first | (with_reducible assumption) | assumption)
       obtain ⟨ad291, A291_1, c291_1, e291, hx291_0, hx291_1, hl291_1, hi291_1⟩ := at_T79 HR0.out x4_1 p291 q291
       have hw291_1 := hx291_1
       have hw291_0 := hx291_0
       obtain rfl : ad287 = ad291 := (by injection e291)
       replace hx291_0 := (HB.out.cell (bk_ w _ hx291_0)).trans hx291_0
       replace hx291_1 := (HB.out.cell (bk_ w _ hx291_1)).trans hx291_1
       have HR291_1 := am_ hi291_1
       have HC291_1 := am_ hl291_1
       clear hi291_1 hl291_1
       replace p291 := eq_true p291
       replace q291 := eq_true q291
       have ea_ := si_ (hx287_1.symm.trans hx291_1)
       injection ea_ with ea_ en_ ec_
       subst ea_
       subst ec_
       clear en_
       refine start_ (n := 17) (S := fun w' => w'.cell? (ad287.add ((x4_1).toNat * 2)) = some (.int .i64 ((rd_T79 l0 x4_1).f0)) ∧ w'.cell? ⟨(ad287.add ((x4_1).toNat * 2)).block, (ad287.add ((x4_1).toNat * 2)).off + 1, none⟩ = some (.slice A287_1 ((rd_T79 l0 x4_1).f1).length c287_1) ∧ w'.cell? (ad287.add ((x4_1).toNat * 2)) = some (.int .i64 ((rd_T79 l0 x4_1).f0)) ∧ w'.cell? ⟨(ad287.add ((x4_1).toNat * 2)).block, (ad287.add ((x4_1).toNat * 2)).off + 1, none⟩ = some (.slice A287_1 ((rd_T79 l0 x4_1).f1).length c287_1)) (ds := []) #[false, false, false, false, false, false, false, false, false, false, false, false, false, false, false, false, false] (by kernel_rfl) rfl rfl ⟨((HB.out.cell (bk_ w _ hw287_0)).trans hw287_0), ((HB.out.cell (bk_ w _ hw287_1)).trans hw287_1), ((HB.out.cell (bk_ w _ hw291_0)).trans hw291_0), ((HB.out.cell (bk_ w _ hw291_1)).trans hw291_1)⟩ (fun hHeld => ?_); refine with_tabW tapearchiveref26_copied.tab5 tapearchiveref26_copied.bits5 (fun HT_ HW_ => ?_)
       generalize wr.drew = w6 at HO_3 HB HR287_1 HR291_1 hx287_0 hx287_1 hx291_0 hx291_1 hHeld ⊢
       refine pure_ (i := 0) (N := some 11) (v := ?_) (a' := ?_) #[true, false, false, false, false, false, false, false, false, false, false, false, false, false, false, false, false] rfl rfl (any_of HT_.out (by kernel_rfl)) (fun _ _ _ h => h) (Or.inl ⟨by rfl, ?_⟩) ?_ ?_
       rotate_left
       ·
        intro w'
        go_simp
        with_reducible rfl
       rotate_left
       ·
        simp only [Act.put, lt1_, lt2_, lt3_, i64_w, i32_w]
        rfl
       refine pure_ (i := 1) (N := some 12) (v := ?_) (a' := ?_) #[true, true, false, false, false, false, false, false, false, false, false, false, false, false, false, false, false] rfl rfl (any_of HT_.out (by kernel_rfl)) (fun _ _ _ h => h) (Or.inl ⟨by rfl, ?_⟩) ?_ ?_
       rotate_left
       ·
        intro w'
        go_simp
        with_reducible rfl
       rotate_left
       ·
        simp only [Act.put, lt1_, lt2_, lt3_, i64_w, i32_w]
        rfl
       refine pure_ (i := 2) (N := some 13) (v := ?_) (a' := ?_) #[true, true, true, false, false, false, false, false, false, false, false, false, false, false, false, false, false] rfl rfl (any_of HT_.out (by kernel_rfl)) (fun _ _ _ h => h) (Or.inl ⟨by rfl, ?_⟩) ?_ ?_
       rotate_left
       ·
        intro w'
        go_simp
        with_reducible rfl
       rotate_left
       ·
        simp only [Act.put, lt1_, lt2_, lt3_, i64_w, i32_w]
        rfl
       refine pure_ (i := 3) (N := some 14) (v := ?_) (a' := ?_) #[true, true, true, true, false, false, false, false, false, false, false, false, false, false, false, false, false] rfl rfl (any_of HT_.out (by kernel_rfl)) (fun _ _ _ h => h) (Or.inl ⟨by rfl, ?_⟩) ?_ ?_
       rotate_left
       ·
        intro w'
        go_simp
        with_reducible rfl
       rotate_left
       ·
        simp only [Act.put, lt1_, lt2_, lt3_, i64_w, i32_w]
        rfl
       refine pure_ (i := 4) (N := some 15) (v := ?_) (a' := ?_) #[true, true, true, true, true, false, false, false, false, false, false, false, false, false, false, false, false] rfl rfl (any_of HT_.out (by kernel_rfl)) (fun _ _ _ h => h) (Or.inl ⟨by rfl, ?_⟩) ?_ ?_
       rotate_left
       ·
        intro w'
        go_simp
        with_reducible rfl
       rotate_left
       ·
        simp only [Act.put, lt1_, lt2_, lt3_, i64_w, i32_w]
        rfl
       refine pure_ (i := 7) (N := some 18) (v := ?_) (a' := ?_) #[true, true, true, true, true, false, false, true, false, false, false, false, false, false, false, false, false] rfl rfl (any_of HT_.out (by kernel_rfl)) (fun _ _ _ h => h) (Or.inl ⟨by rfl, ?_⟩) ?_ ?_
       rotate_left
       ·
        intro w'
        go_simp
        with_reducible rfl
       rotate_left
       ·
        simp only [Act.put, lt1_, lt2_, lt3_, i64_w, i32_w]
        rfl
       refine pure_ (i := 8) (N := some 19) (v := ?_) (a' := ?_) #[true, true, true, true, true, false, false, true, true, false, false, false, false, false, false, false, false] rfl rfl (any_of HT_.out (by kernel_rfl)) (fun _ _ _ h => h) (Or.inl ⟨by rfl, ?_⟩) ?_ ?_
       rotate_left
       ·
        intro w'
        go_simp
        with_reducible rfl
       rotate_left
       ·
        simp only [Act.put, lt1_, lt2_, lt3_, i64_w, i32_w]
        rfl
       refine pure_ (i := 9) (N := some 20) (v := ?_) (a' := ?_) #[true, true, true, true, true, false, false, true, true, true, false, false, false, false, false, false, false] rfl rfl (any_of HT_.out (by kernel_rfl)) (fun _ _ _ h => h) (Or.inl ⟨by rfl, ?_⟩) ?_ ?_
       rotate_left
       ·
        intro w'
        go_simp
        with_reducible rfl
       rotate_left
       ·
        simp only [Act.put, lt1_, lt2_, lt3_, i64_w, i32_w]
        rfl
       refine pure_ (i := 10) (N := some 21) (v := ?_) (a' := ?_) #[true, true, true, true, true, false, false, true, true, true, true, false, false, false, false, false, false] rfl rfl (any_of HT_.out (by kernel_rfl)) (fun _ _ _ h => h) (Or.inl ⟨by rfl, ?_⟩) ?_ ?_
       rotate_left
       ·
        intro w'
        go_simp
        with_reducible rfl
       rotate_left
       ·
        simp only [Act.put, lt1_, lt2_, lt3_, i64_w, i32_w]
        rfl
       refine take_ (i := 5) (N := some 16) (v := ?_) (a' := ?_) #[true, true, true, true, true, true, false, true, true, true, true, false, false, false, false, false, false] rfl rfl (take_ofW HT_.out HW_.out (by kernel_rfl)) (fun _ _ _ h => h) (Or.inl ⟨by rfl, ?_⟩) hHeld ?_ ?_
       rotate_left
       ·
        rintro w' ⟨s0, s1, s2, s3⟩
        go_simp
        with_reducible rfl
       rotate_left
       ·
        simp only [Act.put, lt1_, lt2_, lt3_, i64_w, i32_w]
        rfl
       refine take_ (i := 11) (N := some 22) (v := ?_) (a' := ?_) #[true, true, true, true, true, true, false, true, true, true, true, true, false, false, false, false, false] rfl rfl (take_ofW HT_.out HW_.out (by kernel_rfl)) (fun _ _ _ h => h) (Or.inl ⟨by rfl, ?_⟩) hHeld ?_ ?_
       rotate_left
       ·
        rintro w' ⟨s0, s1, s2, s3⟩
        go_simp
        with_reducible rfl
       rotate_left
       ·
        simp only [Act.put, lt1_, lt2_, lt3_, i64_w, i32_w]
        rfl
       refine one_ (i := 6) (N := some 17) #[true, true, true, true, true, true, true, true, true, true, true, true, false, false, false, false, false] rfl rfl (one_of HT_.out (by kernel_rfl)) (by decide) (fun K hK => ?_)
       refine Kd.R_lit_step (Kd.int .u8) _ 5 ?hg (N := 17) ?hd (xs := ([] : List Int)) (inner := []) (ok := fun _ => True) (okp := fun _ => True) ?hr ?hp (fun _ hk => hk) trivial (Below.refl _ _) (Nat.le_refl _) (by simp) ?_; (case hd => rfl); (case hg => rfl); (case hr => first | (go_simp; done) | (go_simp; rfl)); (case hp => exact (Reps.none _ _))
       intro v289 w7 ho8 hb hg_ hnew_
       clear hg_ hnew_
       (first | rw [← Ny288.out] at ho8 | (simp only [Int.reduceToNat] at ho8; rw [← Ny288.out] at ho8))
       have n0_ := am_ (Kd.S_elder' (pS_ HO_3.out) (Kd.R_base ho8) hb)
       have n1_ := am_ (Kd.R_lower ho8 (bz_ (pb0_ HB.out)))
       have n2_ := am_ (sp_ (pb0_ HB.out) hb)
       clear HO_3
       clear HB
       have HO_3 := n0_
       have HO290 := n1_
       have HB := n2_
       clear n0_ n1_ n2_
       clear hb ho8
       refine hK.out _ _ ⟨((HB.out.cell (bk_ w _ hw287_0)).trans hw287_0), ((HB.out.cell (bk_ w _ hw287_1)).trans hw287_1), ((HB.out.cell (bk_ w _ hw291_0)).trans hw291_0), ((HB.out.cell (bk_ w _ hw291_1)).trans hw291_1)⟩ (fun hHeld => ?_)
       clear hK K
       refine norm_ (a' := ?_) ?_ ?_
       rotate_left
       ·
        show Act.put _ (some 17) _ = _
        simp only [Act.put, lt1_, lt2_, lt3_, i64_w, i32_w]
        rfl
       refine one_ (i := 12) (N := some 23) #[true, true, true, true, true, true, true, true, true, true, true, true, true, false, false, false, false] rfl rfl (one_of HT_.out (by kernel_rfl)) (by decide) (fun K hK => ?_)
       refine Kd.R_append_rows_step (Kd.int .u8) (w0 := w) w.heap.size (by rfl) (.tmp 17) (.tmp 22) 25 5 (.int .u8 0) 1 rfl Try.underlying25 info5 rfl (by decide) (by omega) v289 y288 ((rd_T79 l0 x4_1).f1) _ _ _ (fun _ => True) (fun _ => False) rfl rfl ?aO ?aR (fun _ _ h => h) (fun _ h => h.elim) ?aF ?aB ?aS ?aL ?_
       (case aR => repeat (first | exact (Kd.C_below HR291_1.out HB.out) | (with_reducible refine Kd.C_alloc ?_ _) | (with_reducible refine Kd.C_drewN ?_ _) | (with_reducible refine Kd.C_drew ?_)))
       (case aB => exact (pb0_ HB.out))
       (case aF => exact (fun _ _ => trivial))
       (case aO => exact (pR_ HO290.out))
       (case aS => exact (bz_ (pb0_ HB.out)))
       (case aL => have := LMc4.out; omega)
       intro v293 w9 ho hb hg hat
       rw [← Ny292.out] at ho
       have n0_ := am_ (Kd.S_after (ok := (fun _ => True)) (pS_ HO_3.out) hg hat)
       have n1_ := am_ (hb)
       have n2_ := am_ (ho)
       clear HO_3
       clear HB
       clear HO290
       have HO_3 := n0_
       have HB := n1_
       have HO294 := n2_
       clear n0_ n1_ n2_
       clear ho hb hg hat
       obtain ⟨Ao10, co10, eo10⟩ := Kd.R_slice HO294.out
       (first | subst eo10 | (injection eo10 with f1_ f2_ f3_; have f4_ := f1_.symm; have f5_ := f3_.symm; clear f1_ f2_ f3_; subst f4_; subst f5_))
       refine hK.out _ _ ⟨((HB.out.cell (bk_ w _ hw287_0)).trans hw287_0), ((HB.out.cell (bk_ w _ hw287_1)).trans hw287_1), ((HB.out.cell (bk_ w _ hw291_0)).trans hw291_0), ((HB.out.cell (bk_ w _ hw291_1)).trans hw291_1)⟩ (fun hHeld => ?_)
       clear hK K
       refine norm_ (a' := ?_) ?_ ?_
       rotate_left
       ·
        show Act.put _ (some 23) _ = _
        simp only [Act.put, lt1_, lt2_, lt3_, i64_w, i32_w]
        rfl
       refine pure_ (i := 13) (N := some 24) (v := ?_) (a' := ?_) #[true, true, true, true, true, true, true, true, true, true, true, true, true, true, false, false, false] rfl rfl (any_of HT_.out (by kernel_rfl)) (fun _ _ _ h => h) (Or.inl ⟨by rfl, ?_⟩) ?_ ?_
       rotate_left
       ·
        intro w'
        go_simp
        with_reducible rfl
       rotate_left
       ·
        simp only [Act.put, lt1_, lt2_, lt3_, i64_w, i32_w]
        rfl
       refine one_ (i := 14) (N := some 25) #[true, true, true, true, true, true, true, true, true, true, true, true, true, true, true, false, false] rfl rfl (one_of HT_.out (by kernel_rfl)) (by decide) (fun K hK => ?_)
       refine value_ (w1 := ?_) (v := ?_) (by rfl) rfl ?_ ?_
       rotate_left 2
       ·
        go_simp
        constructor
        ·
         rfl
        ·
         rfl
       refine hK.out _ _ ⟨(World.cell?_alloc_lt _ _ _ (bk_ _ _ (((HB.out.cell (bk_ w _ hw287_0)).trans hw287_0)))).trans (((HB.out.cell (bk_ w _ hw287_0)).trans hw287_0)), (World.cell?_alloc_lt _ _ _ (bk_ _ _ (((HB.out.cell (bk_ w _ hw287_1)).trans hw287_1)))).trans (((HB.out.cell (bk_ w _ hw287_1)).trans hw287_1)), (World.cell?_alloc_lt _ _ _ (bk_ _ _ (((HB.out.cell (bk_ w _ hw291_0)).trans hw291_0)))).trans (((HB.out.cell (bk_ w _ hw291_0)).trans hw291_0)), (World.cell?_alloc_lt _ _ _ (bk_ _ _ (((HB.out.cell (bk_ w _ hw291_1)).trans hw291_1)))).trans (((HB.out.cell (bk_ w _ hw291_1)).trans hw291_1))⟩ (fun hHeld => ?_)
       clear hK K
       refine norm_ (a' := ?_) ?_ ?_
       rotate_left
       ·
        show Act.put _ (some 25) _ = _
        simp only [Act.put, lt1_, lt2_, lt3_, i64_w, i32_w]
        rfl
       refine one_ (i := 15) (N := some 26) #[true, true, true, true, true, true, true, true, true, true, true, true, true, true, true, true, false] rfl rfl (one_of HT_.out (by kernel_rfl)) (by decide) (fun K hK => ?_)
       refine Kd.S_append_step k79 (w0 := w) w.heap.size (by rfl) (.tmp 11) (.tmp 25) 22 79 (.agg #[(.int .i64 0), (.slice none 0 0)]) 32 rfl Try.underlying22 info79 rfl (by decide) (by omega) u3 x3_1 (⟨(rd_T79 l0 x4_1).f0, y292⟩ : S79) [.int .i64 ((rd_T79 l0 x4_1).f0), .slice Ao10 y292.length co10] (fun _ => True) (fun k_ => some k_ = (.slice Ao10 y292.length co10 : Value).ownBlock) rfl rfl ?aP (fun k_ hk_ => ((Kd.R_mono (ok' := fun k_ => ((fun _ => True)) k_ ∧ some k_ ≠ (u3 : Value).ownBlock) (Kd.R_apart' (HO294.out) (Kd.S_typed HO_3.out) (by decide)) (fun k_ hk => ⟨trivial, hk.2⟩))).1 k_ hk_.symm) ?aF ?aO ?aB ?aS ?aL ?_
       (case aP => exact k79_mkM _ _ _ (⟨(rd_T79 l0 x4_1).f0, y292⟩ : S79) (Kd.R_mono (Kd.R_tight rfl (Kd.R_mono (ok' := fun k_ => ((fun _ => True)) k_ ∧ some k_ ≠ (u3 : Value).ownBlock) (Kd.R_apart' (HO294.out) (Kd.S_typed HO_3.out) (by decide)) (fun k_ hk => ⟨trivial, hk.2⟩))) (fun _ h_ => h_)))
       (case aB => exact (pb0_ HB.out))
       (case aF => exact (fun _ _ => trivial))
       (case aO => exact (by (with_reducible repeat (first | apply Kd.S_alloc | apply Kd.S_drewN | apply Kd.S_drew)); exact Kd.S_mono HO_3.out (fun k_ hk => ⟨trivial, fun e_ => hk.2 e_⟩)))
       (case aS => exact (bz_ (pb0_ HB.out)))
       (case aL => have := LMc5.out; omega)
       intro v296 w11 ho hb hg hat
       rw [← Ny295.out] at ho
       have n0_ := am_ (hb)
       have n1_ := am_ (ho)
       clear HB
       clear HO_3
       clear HO294
       have HB := n0_
       have HO297 := n1_
       clear n0_ n1_
       clear ho hb hg hat
       refine hK.out _ _ ⟨((HB.out.cell (bk_ w _ hw287_0)).trans hw287_0), ((HB.out.cell (bk_ w _ hw287_1)).trans hw287_1), ((HB.out.cell (bk_ w _ hw291_0)).trans hw291_0), ((HB.out.cell (bk_ w _ hw291_1)).trans hw291_1)⟩ (fun hHeld => ?_)
       clear hK K
       refine norm_ (a' := ?_) ?_ ?_
       rotate_left
       ·
        show Act.put _ (some 26) _ = _
        simp only [Act.put, lt1_, lt2_, lt3_, i64_w, i32_w]
        rfl
       refine pure_ (i := 16) (N := some 3) (v := ?_) (a' := ?_) #[true, true, true, true, true, true, true, true, true, true, true, true, true, true, true, true, true] rfl rfl (any_of HT_.out (by kernel_rfl)) (fun _ _ _ h => h) (Or.inl ⟨by rfl, ?_⟩) ?_ ?_
       rotate_left
       ·
        intro w'
        go_simp
        with_reducible rfl
       rotate_left
       ·
        simp only [Act.put, lt1_, lt2_, lt3_, i64_w, i32_w]
        rfl
       refine done_ (done_of HT_.out (by kernel_rfl)) ?_
       try go_wp2
       go_roundg k1
       case measure => have := HK1.out; omega
       case rel => exact ⟨(y295), (wrap64 (x4_1 + 1)), (by first | rfl | (simp; done) | (simp [*]; done)), H', ⟨by have := HK1.out; omega⟩, ⟨by (with_reducible repeat (first | apply Kd.S_alloc | apply Kd.S_drewN | apply Kd.S_drew)); exact HO297.out⟩, ⟨pb0_ HB.out⟩⟩
      ·
       rw [if_neg c5] at H
       exact absurd H (by simp)
     ·
      rw [if_neg c4] at H
      exact absurd H (by simp)
    ·
     rw [if_neg c3] at H
     exact absurd H (by simp)
   ·
    rw [if_neg c2] at H
    have c2b0 : decide (x4_1 < (l0.length : Int)) = false := df_ c2
    clear c2
    obtain rfl := si_ H
    go_wp2
    go_ret
    exact ⟨_, by first | rfl | (simp [errW_none, errW_some] <;> rfl) | (simp [*, errW_none, errW_some] <;> rfl), by (with_reducible repeat (first | apply Kd.S_alloc | apply Kd.S_drewN | apply Kd.S_drew)); exact HO_3.out, pb0_ HB.out⟩
def tapearchiveref26_Offer.j0 : Nat → Int → Bool → Int → Int → List (S79) → Option (Int × Int × Int × (List (S79)) × Int × Int)
 | 0, _, _, _, _, _ => none
 | k + 1, x1, x22, x299000, x299001, x299002 => if x22 = true then (some (0, 0, 0, ([] : List (S79)), 0, 7)) else ((tapearchiveref26_end.f x299002 x1).bind fun t301 => (if 0 ≤ x1 then (if x1 ≤ (x299002.length : Int) then ((tapearchiveref26_copied.f k (x299002.drop (x1 : Int).toNat)).bind fun t306 => (some (x299000, x1, t301, t306, x299001, 0))) else (none)) else (none)))
def tapearchiveref26_Offer.f (k : Nat) (a0_0 : Int) (a0_1 : Int) (l0_2 : List (S79)) (a1 : Int) : Option (Int × Int × Int × (List (S79)) × Int × Int) := (tapearchiveref26_valid.f k a0_0 a0_1 l0_2).bind fun t300 => (if t300 = true then (if a0_0 = 0 then (some (0, 0, 0, ([] : List (S79)), 0, 13)) else (if a1 < 0 then (tapearchiveref26_Offer.j0 k a1 true a0_0 a0_1 l0_2) else (tapearchiveref26_Offer.j0 k a1 (decide (a1 > (l0_2.length : Int))) a0_0 a0_1 l0_2))) else (some (0, 0, 0, ([] : List (S79)), 0, 8)))
def tapearchiveref26_Offer.T7 : Bool × List (List Nat × List Nat) := (true, [([], []), ([0], [0]), ([], []), ([], []), ([3], [3]), ([], []), ([4, 5], [4, 5]), ([], []), ([7], [7]), ([], []), ([8, 9], [8, 9]), ([10, 6], [10]), ([], []), ([12], [12]), ([1, 2, 6, 11, 13], [1, 2, 6, 11, 13]), ([14, 11, 0, 1, 2, 3, 4, 5, 6, 7, 8, 9, 10, 11, 12, 13, 14], [14]), ([15, 0, 1, 2, 3, 4, 5, 6, 7, 8, 9, 10, 11, 12, 13, 14, 15], [])])
def tapearchiveref26_Offer.B7 : List Nat := [0, 1, 0, 0, 8, 0, 56, 0, 128, 0, 896, 2040, 0, 4096, 16383, 32767, 65535]
theorem tapearchiveref26_Offer.tab7 : rtab .any (opsOf Try.f12 7) = tapearchiveref26_Offer.T7 := by kernel_rfl
theorem tapearchiveref26_Offer.bits7 : waitsOk tapearchiveref26_Offer.T7.2 tapearchiveref26_Offer.B7 = true := by kernel_rfl
set_option maxHeartbeats 8000000 in
set_option maxRecDepth 100000 in
theorem tapearchiveref26_Offer.calls (k : Nat) (a0_0 : Int) (a0_1 : Int) (A0_2 : Option Addr) (c0_2 : Nat) (l0_2 : List (S79)) (a1 : Int) (r1 : Int) (r2 : Int) (r3 : Int) (r4 : List (S79)) (r5 : Int) (r6 : Int) (w : World) (hr0_2 : Kd.C k79 w A0_2 l0_2.length l0_2) (hc0_2 : l0_2.length ≤ c0_2) (h : tapearchiveref26_Offer.f k a0_0 a0_1 l0_2 a1 = some (r1, r2, r3, r4, r5, r6)) :
  Calls Try.prog 12 #[.agg #[.int .i64 a0_0, .int .i64 a0_1, .slice A0_2 l0_2.length c0_2], .int .i64 a1] w fun e w' => ∃ v3_ : Value, e = .returned (.tuple #[.agg #[.int .i64 r1, .int .i64 r2, .int .i64 r3, v3_, .int .i64 r5], .int .i64 r6]) ∧ Kd.S k79 79 w' w.heap.size (fun _ => True) v3_ r4 ∧ Below w.heap.size w w' := by
 have hu24 := Try.underlying24
 have hu38 := Try.underlying38
 have HR0_2 := am_ hr0_2
 have HC0_2 := am_ hc0_2
 clear hr0_2 hc0_2
 have HB := am_ (Below.refl w.heap.size w)
 have H : ((tapearchiveref26_valid.f k a0_0 a0_1 l0_2).bind fun t300 => (if t300 = true then (if a0_0 = 0 then (some (0, 0, 0, ([] : List (S79)), 0, 13)) else (if a1 < 0 then (tapearchiveref26_Offer.j0 k a1 true a0_0 a0_1 l0_2) else (tapearchiveref26_Offer.j0 k a1 (decide (a1 > (l0_2.length : Int))) a0_0 a0_1 l0_2))) else (some (0, 0, 0, ([] : List (S79)), 0, 8)))) = some (r1, r2, r3, r4, r5, r6) := h
 clear h
 replace H := Option.bind_eq_some_iff.mp H
 obtain ⟨t300, A30, H⟩ := H
 replace H : (if t300 = true then (if a0_0 = 0 then (some (0, 0, 0, ([] : List (S79)), 0, 13)) else (if a1 < 0 then (tapearchiveref26_Offer.j0 k a1 true a0_0 a0_1 l0_2) else (tapearchiveref26_Offer.j0 k a1 (decide (a1 > (l0_2.length : Int))) a0_0 a0_1 l0_2))) else (some (0, 0, 0, ([] : List (S79)), 0, 8))) = some (r1, r2, r3, r4, r5, r6) := H
 have A3 := am_ A30
 clear A30
 by_cases c4 : t300 = true
 ·
  subst c4
  have H1 : (if a0_0 = 0 then (some (0, 0, 0, ([] : List (S79)), 0, 13)) else (if a1 < 0 then (tapearchiveref26_Offer.j0 k a1 true a0_0 a0_1 l0_2) else (tapearchiveref26_Offer.j0 k a1 (decide (a1 > (l0_2.length : Int))) a0_0 a0_1 l0_2))) = some (r1, r2, r3, r4, r5, r6) := by rw [if_pos rfl] at H; exact H
  clear H
  have H := H1
  clear H1
  by_cases c5 : a0_0 = 0
  ·
   rw [if_pos c5] at H
   have c5b0 : (a0_0 == 0) = true := beq_iff_eq.mpr c5
   have c5b1 : (a0_0 != 0) = false := bne_eq_false_iff_eq.mpr c5
   clear c5
   simp only [Option.some.injEq, Prod.mk.injEq] at H
   obtain ⟨rfl, rfl, rfl, rfl, rfl, rfl⟩ := H
   go_enter Try.func12, Try.ntmps12
   go_wp2_with (first | ((with_reducible refine gate_dst (N := 2) rfl ?_); (try (refine gate_guard (by rfl) ?_; dsimp only)); refine box_event ?hg (N := 2) ?hd (cs := #[.int .i64 a0_0, .int .i64 a0_1, .slice A0_2 l0_2.length c0_2]) (t := 24) ?hr ?_; (case hd => rfl); (case hg => rfl); (case hr => first | (go_simp; done) | (go_simp; rfl)); intro gb298 hg w6 hbox hb; have n0_ := am_ (sp_ (pb0_ HB.out) hb); have n1_ := am_ (hbox); have n2_ := am_ ((by rw [hg]; exact (bz_ (pb0_ HB.out)) : w.heap.size ≤ gb298)); have n3_ := am_ ((by rw [hg]; exact (bz_ (pb0_ HB.out)) : w.heap.size ≤ gb298)); clear HB; have HB := n0_; have BK298 := n1_; have GW298 := n2_; have GE298 := n3_; clear n0_ n1_ n2_ n3_; clear hb hbox hg) | ((with_reducible refine gate_dst (N := 4) rfl ?_); (try (refine gate_guard (by rfl) ?_; dsimp only)); refine box_event ?hg (N := 4) ?hd (cs := #[.int .i64 0, .int .i64 0, .int .i64 0, .slice none 0 0, .int .i64 0]) (t := 38) ?hr ?_; (case hd => rfl); (case hg => rfl); (case hr => first | (go_simp; done) | (go_simp; rfl)); intro gb299 hg w7 hbox hb; have n0_ := am_ (bw_ (g := gb298) (o := .cells #[.int .i64 a0_0, .int .i64 a0_1, .slice A0_2 l0_2.length c0_2] 24 (0, 0)) (pk_ BK298.out) hb); have n1_ := am_ (sp_ (pb1_ HB.out GE298.out) hb); have n2_ := am_ (hbox); have n3_ := am_ ((by rw [hg]; exact (bz_ (pb1_ HB.out GE298.out)) : w.heap.size ≤ gb299)); have n4_ := am_ ((by rw [hg]; exact (bz_ (pb1_ HB.out GE298.out)) : w.heap.size ≤ gb299)); have n5_ := am_ ((by rw [hg]; exact Nat.ne_of_lt (blk_lt (g := gb298) (o := .cells #[.int .i64 a0_0, .int .i64 a0_1, .slice A0_2 l0_2.length c0_2] 24 (0, 0)) (pk_ BK298.out)) : gb298 ≠ gb299)); have n6_ := am_ ((by rw [hg]; exact Nat.ne_of_gt (blk_lt (g := gb298) (o := .cells #[.int .i64 a0_0, .int .i64 a0_1, .slice A0_2 l0_2.length c0_2] 24 (0, 0)) (pk_ BK298.out)) : gb299 ≠ gb298)); clear BK298; clear HB; have BK298 := n0_; have HB := n1_; have BK299 := n2_; have GW299 := n3_; have GE299 := n4_; have NB298_299 := n5_; have NB299_298 := n6_; clear n0_ n1_ n2_ n3_ n4_ n5_ n6_; clear hb hbox hg; have hnb8 := NB298_299.out; have hnc8 := NB299_298.out; have hcz9_0 : w7.cell? ⟨gb298, 0, none⟩ = some (.int .i64 a0_0) := (bc_ BK298.out 0).trans rfl; have hcz9_1 : w7.cell? ⟨gb298, 1, none⟩ = some (.int .i64 a0_1) := (bc_ BK298.out 1).trans rfl; have hcz9_2 : w7.cell? ⟨gb298, 2, none⟩ = some (.slice A0_2 l0_2.length c0_2) := (bc_ BK298.out 2).trans rfl; have hfz9_0 := bf_ BK298.out 0; have hfz9_1 := bf_ BK298.out 1; have hfz9_2 := bf_ BK298.out 2) | ((with_reducible refine gate_callee (f := 31) rfl ?_); refine goesL_ (some 7) rfl rfl Try.func31 (by kernel_rfl) rfl #[.agg #[.int .i64 a0_0, .int .i64 a0_1, .slice A0_2 l0_2.length c0_2]] rfl au_ ?_; (with_reducible refine (tapearchiveref26_valid.calls k a0_0 a0_1 _ _ l0_2 true _ ?side1 ?side2 A3.out).mono ?_); (case side1 => repeat (first | exact (Kd.C_below HR0_2.out HB.out) | (with_reducible refine Kd.C_alloc ?_ _) | (with_reducible refine Kd.C_drewN ?_ _) | (with_reducible refine Kd.C_drew ?_))); (case side2 => exact HC0_2.out); rintro e w10 ⟨rfl, hb⟩; refine ⟨_, rfl, ?_⟩; have n0_ := am_ (bw_ (g := gb298) (o := .cells #[.int .i64 a0_0, .int .i64 a0_1, .slice A0_2 l0_2.length c0_2] 24 (0, 0)) (pk_ BK298.out) hb); have n1_ := am_ (bw_ (g := gb299) (o := .cells #[.int .i64 0, .int .i64 0, .int .i64 0, .slice none 0 0, .int .i64 0] 38 (0, 0)) (pk_ BK299.out) hb); have n2_ := am_ (sp_ (pb2_ HB.out GE298.out GE299.out) hb); clear BK298; clear BK299; clear HB; have BK298 := n0_; have BK299 := n1_; have HB := n2_; clear n0_ n1_ n2_; (try clear hb); (try clear hb2); (try clear hk); (try clear hi); have hcz11_0 : w10.cell? ⟨gb298, 0, none⟩ = some (.int .i64 a0_0) := (bc_ BK298.out 0).trans rfl; have hcz11_1 : w10.cell? ⟨gb298, 1, none⟩ = some (.int .i64 a0_1) := (bc_ BK298.out 1).trans rfl; have hcz11_2 : w10.cell? ⟨gb298, 2, none⟩ = some (.slice A0_2 l0_2.length c0_2) := (bc_ BK298.out 2).trans rfl; have hfz11_0 := bf_ BK298.out 0; have hfz11_1 := bf_ BK298.out 1; have hfz11_2 := bf_ BK298.out 2; have hcz12_0 : w10.cell? ⟨gb299, 0, none⟩ = some (.int .i64 0) := (bc_ BK299.out 0).trans rfl; have hcz12_1 : w10.cell? ⟨gb299, 1, none⟩ = some (.int .i64 0) := (bc_ BK299.out 1).trans rfl; have hcz12_2 : w10.cell? ⟨gb299, 2, none⟩ = some (.int .i64 0) := (bc_ BK299.out 2).trans rfl; have hcz12_3 : w10.cell? ⟨gb299, 3, none⟩ = some (.slice none 0 0) := (bc_ BK299.out 3).trans rfl; have hcz12_4 : w10.cell? ⟨gb299, 4, none⟩ = some (.int .i64 0) := (bc_ BK299.out 4).trans rfl; have hfz12_0 := bf_ BK299.out 0; have hfz12_1 := bf_ BK299.out 1; have hfz12_2 := bf_ BK299.out 2; have hfz12_3 := bf_ BK299.out 3; have hfz12_4 := bf_ BK299.out 4))
   refine bodyPost_ret (results_ct rfl _ _ gb299 38 #[.int .i64 0, .int .i64 0, .int .i64 0, .slice none 0 0, .int .i64 0] (0, 0) _ rfl (by (with_reducible repeat (first | refine bn_ ?_ _ | refine bd_ ?_ | refine ba_ ?_ _)); refine blk_put (cs := #[.int .i64 0, .int .i64 0, .int .i64 0, .slice none 0 0, .int .i64 0]) ?_ 4 _ rfl; (with_reducible repeat (first | refine bn_ ?_ _ | refine bd_ ?_ | refine ba_ ?_ _)); refine blk_put (cs := #[.int .i64 0, .int .i64 0, .int .i64 0, .slice none 0 0, .int .i64 0]) ?_ 3 _ rfl; (with_reducible repeat (first | refine bn_ ?_ _ | refine bd_ ?_ | refine ba_ ?_ _)); refine blk_put (cs := #[.int .i64 0, .int .i64 0, .int .i64 0, .slice none 0 0, .int .i64 0]) ?_ 2 _ rfl; (with_reducible repeat (first | refine bn_ ?_ _ | refine bd_ ?_ | refine ba_ ?_ _)); refine blk_put (cs := #[.int .i64 0, .int .i64 0, .int .i64 0, .slice none 0 0, .int .i64 0]) ?_ 1 _ rfl; (with_reducible repeat (first | refine bn_ ?_ _ | refine bd_ ?_ | refine ba_ ?_ _)); refine blk_put (cs := #[.int .i64 0, .int .i64 0, .int .i64 0, .slice none 0 0, .int .i64 0]) ?_ 0 _ rfl; (with_reducible repeat (first | refine bn_ ?_ _ | refine bd_ ?_ | refine ba_ ?_ _)); exact BK299.out) Try.underlying38 rfl (by kernel_rfl)) rfl ?_
   exact ⟨_, by first | rfl | (simp [errW_none, errW_some] <;> rfl) | (simp [*, errW_none, errW_some] <;> rfl), by first | exact Kd.S_nil _ _ _ _ _ | exact Kd.N_nil _ _ _ _ _ | exact Kd.V_nil _ _ _ _ _ | exact Kd.Q_nil _ _ _ _ _ | exact Kd.R_nil _ _ _ _ _, pb2_ HB.out GE298.out GE299.out⟩
  ·
   rw [if_neg c5] at H
   have c5b0 : (a0_0 == 0) = false := beq_eq_false_iff_ne.mpr c5
   have c5b1 : (a0_0 != 0) = true := bne_iff_ne.mpr c5
   have HC13 := am_ H
   clear H
   go_enter Try.func12, Try.ntmps12
   go_upto_region 5 with (first | ((with_reducible refine gate_dst (N := 2) rfl ?_); (try (refine gate_guard (by rfl) ?_; dsimp only)); refine box_event ?hg (N := 2) ?hd (cs := #[.int .i64 a0_0, .int .i64 a0_1, .slice A0_2 l0_2.length c0_2]) (t := 24) ?hr ?_; (case hd => rfl); (case hg => rfl); (case hr => first | (go_simp; done) | (go_simp; rfl)); intro gb298 hg w14 hbox hb; have n0_ := am_ (sp_ (pb0_ HB.out) hb); have n1_ := am_ (hbox); have n2_ := am_ ((by rw [hg]; exact (bz_ (pb0_ HB.out)) : w.heap.size ≤ gb298)); have n3_ := am_ ((by rw [hg]; exact (bz_ (pb0_ HB.out)) : w.heap.size ≤ gb298)); clear HB; have HB := n0_; have BK298 := n1_; have GW298 := n2_; have GE298 := n3_; clear n0_ n1_ n2_ n3_; clear hb hbox hg) | ((with_reducible refine gate_dst (N := 4) rfl ?_); (try (refine gate_guard (by rfl) ?_; dsimp only)); refine box_event ?hg (N := 4) ?hd (cs := #[.int .i64 0, .int .i64 0, .int .i64 0, .slice none 0 0, .int .i64 0]) (t := 38) ?hr ?_; (case hd => rfl); (case hg => rfl); (case hr => first | (go_simp; done) | (go_simp; rfl)); intro gb299 hg w15 hbox hb; have n0_ := am_ (bw_ (g := gb298) (o := .cells #[.int .i64 a0_0, .int .i64 a0_1, .slice A0_2 l0_2.length c0_2] 24 (0, 0)) (pk_ BK298.out) hb); have n1_ := am_ (sp_ (pb1_ HB.out GE298.out) hb); have n2_ := am_ (hbox); have n3_ := am_ ((by rw [hg]; exact (bz_ (pb1_ HB.out GE298.out)) : w.heap.size ≤ gb299)); have n4_ := am_ ((by rw [hg]; exact (bz_ (pb1_ HB.out GE298.out)) : w.heap.size ≤ gb299)); have n5_ := am_ ((by rw [hg]; exact Nat.ne_of_lt (blk_lt (g := gb298) (o := .cells #[.int .i64 a0_0, .int .i64 a0_1, .slice A0_2 l0_2.length c0_2] 24 (0, 0)) (pk_ BK298.out)) : gb298 ≠ gb299)); have n6_ := am_ ((by rw [hg]; exact Nat.ne_of_gt (blk_lt (g := gb298) (o := .cells #[.int .i64 a0_0, .int .i64 a0_1, .slice A0_2 l0_2.length c0_2] 24 (0, 0)) (pk_ BK298.out)) : gb299 ≠ gb298)); clear BK298; clear HB; have BK298 := n0_; have HB := n1_; have BK299 := n2_; have GW299 := n3_; have GE299 := n4_; have NB298_299 := n5_; have NB299_298 := n6_; clear n0_ n1_ n2_ n3_ n4_ n5_ n6_; clear hb hbox hg; have hnb16 := NB298_299.out; have hnc16 := NB299_298.out; have hcz17_0 : w15.cell? ⟨gb298, 0, none⟩ = some (.int .i64 a0_0) := (bc_ BK298.out 0).trans rfl; have hcz17_1 : w15.cell? ⟨gb298, 1, none⟩ = some (.int .i64 a0_1) := (bc_ BK298.out 1).trans rfl; have hcz17_2 : w15.cell? ⟨gb298, 2, none⟩ = some (.slice A0_2 l0_2.length c0_2) := (bc_ BK298.out 2).trans rfl; have hfz17_0 := bf_ BK298.out 0; have hfz17_1 := bf_ BK298.out 1; have hfz17_2 := bf_ BK298.out 2) | ((with_reducible refine gate_callee (f := 31) rfl ?_); refine goesL_ (some 7) rfl rfl Try.func31 (by kernel_rfl) rfl #[.agg #[.int .i64 a0_0, .int .i64 a0_1, .slice A0_2 l0_2.length c0_2]] rfl au_ ?_; (with_reducible refine (tapearchiveref26_valid.calls k a0_0 a0_1 _ _ l0_2 true _ ?side1 ?side2 A3.out).mono ?_); (case side1 => repeat (first | exact (Kd.C_below HR0_2.out HB.out) | (with_reducible refine Kd.C_alloc ?_ _) | (with_reducible refine Kd.C_drewN ?_ _) | (with_reducible refine Kd.C_drew ?_))); (case side2 => exact HC0_2.out); rintro e w18 ⟨rfl, hb⟩; refine ⟨_, rfl, ?_⟩; have n0_ := am_ (bw_ (g := gb298) (o := .cells #[.int .i64 a0_0, .int .i64 a0_1, .slice A0_2 l0_2.length c0_2] 24 (0, 0)) (pk_ BK298.out) hb); have n1_ := am_ (bw_ (g := gb299) (o := .cells #[.int .i64 0, .int .i64 0, .int .i64 0, .slice none 0 0, .int .i64 0] 38 (0, 0)) (pk_ BK299.out) hb); have n2_ := am_ (sp_ (pb2_ HB.out GE298.out GE299.out) hb); clear BK298; clear BK299; clear HB; have BK298 := n0_; have BK299 := n1_; have HB := n2_; clear n0_ n1_ n2_; (try clear hb); (try clear hb2); (try clear hk); (try clear hi); have hcz19_0 : w18.cell? ⟨gb298, 0, none⟩ = some (.int .i64 a0_0) := (bc_ BK298.out 0).trans rfl; have hcz19_1 : w18.cell? ⟨gb298, 1, none⟩ = some (.int .i64 a0_1) := (bc_ BK298.out 1).trans rfl; have hcz19_2 : w18.cell? ⟨gb298, 2, none⟩ = some (.slice A0_2 l0_2.length c0_2) := (bc_ BK298.out 2).trans rfl; have hfz19_0 := bf_ BK298.out 0; have hfz19_1 := bf_ BK298.out 1; have hfz19_2 := bf_ BK298.out 2))
   (try simp only [Act.put, lt1_, lt2_, lt3_])
   go_cut [22] (fun v22 wc => ∃ (kq : Nat) (x22_12 : Bool), v22 = .bool x22_12 ∧ Aside0 (tapearchiveref26_Offer.j0 kq a1 x22_12 a0_0 a0_1 l0_2 = some (r1, r2, r3, r4, r5, r6)) ∧ Aside0 (kq ≤ k) ∧ Aside0 (wc.heap[gb298]? = some (.cells #[.int .i64 a0_0, .int .i64 a0_1, (.slice A0_2 l0_2.length c0_2)] 24 (0, 0))) ∧ Aside0 (wc.heap[gb299]? = some (.cells #[.int .i64 0, .int .i64 0, .int .i64 0, (.slice none 0 0), .int .i64 0] 38 (0, 0))) ∧ Aside0 (Below w.heap.size w wc))
   case first =>
    have H := HC13.out
    clear HC13
    by_cases c20 : a1 < 0
    ·
     rw [if_pos c20] at H
     have c20b0 : decide (a1 < 0) = true := de_ c20
     clear c20
     (first | rw [c20b0] | (simp only [i64_w, i32_w]; rw [c20b0]) | rw [c20b2] | skip)
     have H' := am_ H
     clear H
     go_wp2
     go_meet
     case rel => exact ⟨_, (true), (by first | rfl | (simp; done) | (simp [*]; done)), H', ⟨by first | omega | exact Nat.le_refl _⟩, ⟨by (with_reducible repeat (first | refine bn_ ?_ _ | refine bd_ ?_ | refine ba_ ?_ _)); exact BK298.out⟩, ⟨by (with_reducible repeat (first | refine bn_ ?_ _ | refine bd_ ?_ | refine ba_ ?_ _)); exact BK299.out⟩, ⟨pb2_ HB.out GE298.out GE299.out⟩⟩
    ·
     rw [if_neg c20] at H
     have c20b0 : decide (a1 < 0) = false := df_ c20
     clear c20
     (first | rw [c20b0] | (simp only [i64_w, i32_w]; rw [c20b0]) | rw [c20b2] | skip)
     have H' := am_ H
     clear H
     have hnb21 := NB298_299.out
     have hnc21 := NB299_298.out
     have hcz22_0 : w18.cell? ⟨gb298, 0, none⟩ = some (.int .i64 a0_0) := (bc_ BK298.out 0).trans rfl
     have hcz22_1 : w18.cell? ⟨gb298, 1, none⟩ = some (.int .i64 a0_1) := (bc_ BK298.out 1).trans rfl
     have hcz22_2 : w18.cell? ⟨gb298, 2, none⟩ = some (.slice A0_2 l0_2.length c0_2) := (bc_ BK298.out 2).trans rfl
     have hfz22_0 := bf_ BK298.out 0
     have hfz22_1 := bf_ BK298.out 1
     have hfz22_2 := bf_ BK298.out 2
     go_wp2
     go_meet
     case rel => exact ⟨_, (decide (a1 > (l0_2.length : Int))), (by first | rfl | (simp; done) | (simp [*]; done)), H', ⟨by first | omega | exact Nat.le_refl _⟩, ⟨by (with_reducible repeat (first | refine bn_ ?_ _ | refine bd_ ?_ | refine ba_ ?_ _)); exact BK298.out⟩, ⟨by (with_reducible repeat (first | refine bn_ ?_ _ | refine bd_ ?_ | refine ba_ ?_ _)); exact BK299.out⟩, ⟨pb2_ HB.out GE298.out GE299.out⟩⟩
   case rest =>
    clear HC13
    try clear c1
    try clear c2
    try clear p2
    try clear c3
    try clear c4
    try clear c5
    try clear c5b0
    try clear c5b1
    try clear c8
    try clear c12
    try clear c16
    try clear c20
    try clear c20b0
    try clear c20b2
    try clear c21
    try clear hcz11_0
    try clear hcz11_1
    try clear hcz11_2
    try clear hcz12_0
    try clear hcz12_1
    try clear hcz12_2
    try clear hcz12_3
    try clear hcz12_4
    try clear hcz17_0
    try clear hcz17_1
    try clear hcz17_2
    try clear hcz19_0
    try clear hcz19_1
    try clear hcz19_2
    try clear hcz22_0
    try clear hcz22_1
    try clear hcz22_2
    try clear hcz9_0
    try clear hcz9_1
    try clear hcz9_2
    try clear hfz11_0
    try clear hfz11_1
    try clear hfz11_2
    try clear hfz12_0
    try clear hfz12_1
    try clear hfz12_2
    try clear hfz12_3
    try clear hfz12_4
    try clear hfz17_0
    try clear hfz17_1
    try clear hfz17_2
    try clear hfz19_0
    try clear hfz19_1
    try clear hfz19_2
    try clear hfz22_0
    try clear hfz22_1
    try clear hfz22_2
    try clear hfz9_0
    try clear hfz9_1
    try clear hfz9_2
    obtain ⟨kq, x22_12, rfl, HA, HJ12, BK298, BK299, HB⟩ := hcut
    cases kq with
    | zero => exact absurd HA.out (by simp [tapearchiveref26_Offer.j0])
    | succ kj12 =>
     have H := HA.out
     clear HA
     simp only [tapearchiveref26_Offer.j0] at H
     by_cases c23 : x22_12 = true
     ·
      subst c23
      have H1 : (some (0, 0, 0, ([] : List (S79)), 0, 7)) = some (r1, r2, r3, r4, r5, r6) := by rw [if_pos rfl] at H; exact H
      clear H
      have H := H1
      clear H1
      simp only [Option.some.injEq, Prod.mk.injEq] at H
      obtain ⟨rfl, rfl, rfl, rfl, rfl, rfl⟩ := H
      have hnb24 := NB299_298.out
      have hnc24 := NB298_299.out
      have hcz25_0 : wc.cell? ⟨gb299, 0, none⟩ = some (.int .i64 0) := (bc_ BK299.out 0).trans rfl
      have hcz25_1 : wc.cell? ⟨gb299, 1, none⟩ = some (.int .i64 0) := (bc_ BK299.out 1).trans rfl
      have hcz25_2 : wc.cell? ⟨gb299, 2, none⟩ = some (.int .i64 0) := (bc_ BK299.out 2).trans rfl
      have hcz25_3 : wc.cell? ⟨gb299, 3, none⟩ = some (.slice none 0 0) := (bc_ BK299.out 3).trans rfl
      have hcz25_4 : wc.cell? ⟨gb299, 4, none⟩ = some (.int .i64 0) := (bc_ BK299.out 4).trans rfl
      have hfz25_0 := bf_ BK299.out 0
      have hfz25_1 := bf_ BK299.out 1
      have hfz25_2 := bf_ BK299.out 2
      have hfz25_3 := bf_ BK299.out 3
      have hfz25_4 := bf_ BK299.out 4
      go_wp2
      refine bodyPost_ret (results_ct rfl _ _ gb299 38 #[.int .i64 0, .int .i64 0, .int .i64 0, .slice none 0 0, .int .i64 0] (0, 0) _ rfl (by (with_reducible repeat (first | refine bn_ ?_ _ | refine bd_ ?_ | refine ba_ ?_ _)); refine blk_put (cs := #[.int .i64 0, .int .i64 0, .int .i64 0, .slice none 0 0, .int .i64 0]) ?_ 4 _ rfl; (with_reducible repeat (first | refine bn_ ?_ _ | refine bd_ ?_ | refine ba_ ?_ _)); refine blk_put (cs := #[.int .i64 0, .int .i64 0, .int .i64 0, .slice none 0 0, .int .i64 0]) ?_ 3 _ rfl; (with_reducible repeat (first | refine bn_ ?_ _ | refine bd_ ?_ | refine ba_ ?_ _)); refine blk_put (cs := #[.int .i64 0, .int .i64 0, .int .i64 0, .slice none 0 0, .int .i64 0]) ?_ 2 _ rfl; (with_reducible repeat (first | refine bn_ ?_ _ | refine bd_ ?_ | refine ba_ ?_ _)); refine blk_put (cs := #[.int .i64 0, .int .i64 0, .int .i64 0, .slice none 0 0, .int .i64 0]) ?_ 1 _ rfl; (with_reducible repeat (first | refine bn_ ?_ _ | refine bd_ ?_ | refine ba_ ?_ _)); refine blk_put (cs := #[.int .i64 0, .int .i64 0, .int .i64 0, .slice none 0 0, .int .i64 0]) ?_ 0 _ rfl; (with_reducible repeat (first | refine bn_ ?_ _ | refine bd_ ?_ | refine ba_ ?_ _)); exact BK299.out) Try.underlying38 rfl (by kernel_rfl)) rfl ?_
      exact ⟨_, by first | rfl | (simp [errW_none, errW_some] <;> rfl) | (simp [*, errW_none, errW_some] <;> rfl), by first | exact Kd.S_nil _ _ _ _ _ | exact Kd.N_nil _ _ _ _ _ | exact Kd.V_nil _ _ _ _ _ | exact Kd.Q_nil _ _ _ _ _ | exact Kd.R_nil _ _ _ _ _, pb2_ HB.out GE298.out GE299.out⟩
     ·
      replace c23 := Bool.eq_false_iff.mpr c23
      subst c23
      have H1 : ((tapearchiveref26_end.f l0_2 a1).bind fun t301 => (if 0 ≤ a1 then (if a1 ≤ (l0_2.length : Int) then ((tapearchiveref26_copied.f kj12 (l0_2.drop (a1 : Int).toNat)).bind fun t306 => (some (a0_0, a1, t301, t306, a0_1, 0))) else (none)) else (none))) = some (r1, r2, r3, r4, r5, r6) := by rw [if_neg (show ¬ (false = true) by decide)] at H; exact H
      clear H
      have H := H1
      clear H1
      replace H := Option.bind_eq_some_iff.mp H
      obtain ⟨t301, A260, H⟩ := H
      replace H : (if 0 ≤ a1 then (if a1 ≤ (l0_2.length : Int) then ((tapearchiveref26_copied.f kj12 (l0_2.drop (a1 : Int).toNat)).bind fun t306 => (some (a0_0, a1, t301, t306, a0_1, 0))) else (none)) else (none)) = some (r1, r2, r3, r4, r5, r6) := H
      have A26 := am_ A260
      clear A260
      by_cases c27 : 0 ≤ a1
      ·
       rw [if_pos c27] at H
       have c27b0 := eq_true c27
       have c27b1 : decide (0 ≤ a1) = true := de_ c27
       clear c27
       by_cases c28 : a1 ≤ (l0_2.length : Int)
       ·
        rw [if_pos c28] at H
        have c28b0 := eq_true c28
        have c28b1 : decide (a1 ≤ (l0_2.length : Int)) = true := de_ c28
        clear c28
        obtain ⟨y302, hy302⟩ : ∃ y_ : List (S79), y_ = (l0_2.drop (a1 : Int).toNat) := ⟨_, rfl⟩
        replace H : ((tapearchiveref26_copied.f kj12 y302).bind fun t306 => (some (a0_0, a1, t301, t306, a0_1, 0))) = some (r1, r2, r3, r4, r5, r6) := by first | (rw [hy302]; with_reducible exact H) | (have H2_ := (Option.bind_some _ _).symm.trans H; rw [hy302]; with_reducible exact H2_) | (have H2_ := (Option.bind_some _ _).symm.trans H; with_reducible exact H2_) | with_reducible exact H | (rw [hy302]; exact H) | exact H
        have Ny302 := am_ hy302
        clear hy302
        replace H := Option.bind_eq_some_iff.mp H
        obtain ⟨t306, A290, H⟩ := H
        replace H : (some (a0_0, a1, t301, t306, a0_1, 0)) = some (r1, r2, r3, r4, r5, r6) := H
        have A29 := am_ A290
        clear A290
        simp only [Option.some.injEq, Prod.mk.injEq] at H
        obtain ⟨rfl, rfl, rfl, rfl, rfl, rfl⟩ := H
        try go_wp2
        have n0_ := am_ (bd_ BK298.out)
        have n1_ := am_ (bd_ BK299.out)
        have n2_ := am_ (b1_ HB.out)
        clear BK298
        clear BK299
        clear HB
        have BK298 := n0_
        have BK299 := n1_
        have HB := n2_
        clear n0_ n1_ n2_
        have q31 : (a1 : Int) ≤ ((l0_2.length : Int) : Int) := ot_ (by first | (with_reducible assumption) | assumption)
        obtain ⟨i031, hi031, _, hsz31, _⟩ := info_parts info79
        have hroom31 : l0_2.length ≤ c0_2 := HC0_2.out
        have hC31 : Kd.C k79 _ A0_2 l0_2.length l0_2 := HR0_2.out
        have q031 : (0 : Int) ≤ (a1 : Int) := ot_ (by first | (with_reducible assumption) | assumption)
        have hcut31 := cut_from (P := Try.prog) 22 79 .i64 Try.underlying22 hi031 2 hsz31 A0_2 l0_2.length c0_2 a1 q031 q31
        have hr31 := Kd.C_drop (m := (a1 : Int).toNat) (c := c0_2) hC31 (by omega) hroom31
        obtain ⟨A31, hA31⟩ : ∃ A1, A1 = (if c0_2 = (a1 : Int).toNat then A0_2 else (A0_2 : Option Addr).map (·.add ((a1 : Int).toNat * 2))) := ⟨_, rfl⟩
        obtain ⟨c31, hc31⟩ : ∃ c1, c1 = c0_2 - (a1 : Int).toNat := ⟨_, rfl⟩
        have hy31 : y302.length = l0_2.length - (a1 : Int).toNat := (by rw [Ny302.out, List.length_drop] <;> omega)
        rw [show (l0_2).drop (a1 : Int).toNat = y302 from Ny302.out.symm] at hr31
        replace hr31 : Kd.C k79 _ A31 y302.length y302 := (by rw [hA31]; exact hr31)
        rw [← hy31, ← hA31, ← hc31] at hcut31
        have HR305 := am_ hr31
        have HC305 := am_ (show y302.length ≤ c31 from by rw [hy31, hc31]; exact Nat.sub_le_sub_right hroom31 _)
        clear hr31 hC31 hroom31 hi031 hsz31 hc31
        have KY31 := am_ hy31
        have KA31 := am_ hA31
        clear hy31 hA31
        replace q31 := eq_true q31
        refine start_ (n := 17) (S := fun w' => w'.cell? ⟨gb298, 0, none⟩ = some (.int .i64 a0_0) ∧ w'.cell? ⟨gb298, 1, none⟩ = some (.int .i64 a0_1) ∧ w'.cell? ⟨gb298, 2, none⟩ = some (.slice A0_2 l0_2.length c0_2)) (ds := []) #[false, false, false, false, false, false, false, false, false, false, false, false, false, false, false, false, false] (by kernel_rfl) rfl rfl ⟨(bc_ BK298.out 0).trans rfl, (bc_ BK298.out 1).trans rfl, (bc_ BK298.out 2).trans rfl⟩ (fun hHeld => ?_); refine with_tabW tapearchiveref26_Offer.tab7 tapearchiveref26_Offer.bits7 (fun HT_ HW_ => ?_)
        generalize wc.drew = w30 at BK298 BK299 HB HR305 hHeld ⊢
        refine pure_ (i := 0) (N := some 24) (v := ?_) (a' := ?_) #[true, false, false, false, false, false, false, false, false, false, false, false, false, false, false, false, false] rfl rfl (any_of HT_.out (by kernel_rfl)) (fun _ _ _ h => h) (Or.inl ⟨by rfl, ?_⟩) ?_ ?_
        rotate_left
        ·
         intro w'
         go_simp
         with_reducible rfl
        rotate_left
        ·
         simp only [Act.put, lt1_, lt2_, lt3_, i64_w, i32_w]
         rfl
        refine pure_ (i := 2) (N := some 26) (v := ?_) (a' := ?_) #[true, false, true, false, false, false, false, false, false, false, false, false, false, false, false, false, false] rfl rfl (any_of HT_.out (by kernel_rfl)) (fun _ _ _ h => h) (Or.inl ⟨by rfl, ?_⟩) ?_ ?_
        rotate_left
        ·
         intro w'
         go_simp
         with_reducible rfl
        rotate_left
        ·
         simp only [Act.put, lt1_, lt2_, lt3_, i64_w, i32_w]
         rfl
        refine pure_ (i := 3) (N := some 27) (v := ?_) (a' := ?_) #[true, false, true, true, false, false, false, false, false, false, false, false, false, false, false, false, false] rfl rfl (any_of HT_.out (by kernel_rfl)) (fun _ _ _ h => h) (Or.inl ⟨by rfl, ?_⟩) ?_ ?_
        rotate_left
        ·
         intro w'
         go_simp
         with_reducible rfl
        rotate_left
        ·
         simp only [Act.put, lt1_, lt2_, lt3_, i64_w, i32_w]
         rfl
        refine pure_ (i := 5) (N := some 29) (v := ?_) (a' := ?_) #[true, false, true, true, false, true, false, false, false, false, false, false, false, false, false, false, false] rfl rfl (any_of HT_.out (by kernel_rfl)) (fun _ _ _ h => h) (Or.inl ⟨by rfl, ?_⟩) ?_ ?_
        rotate_left
        ·
         intro w'
         go_simp
         with_reducible rfl
        rotate_left
        ·
         simp only [Act.put, lt1_, lt2_, lt3_, i64_w, i32_w]
         rfl
        refine pure_ (i := 7) (N := some 31) (v := ?_) (a' := ?_) #[true, false, true, true, false, true, false, true, false, false, false, false, false, false, false, false, false] rfl rfl (any_of HT_.out (by kernel_rfl)) (fun _ _ _ h => h) (Or.inl ⟨by rfl, ?_⟩) ?_ ?_
        rotate_left
        ·
         intro w'
         go_simp
         with_reducible rfl
        rotate_left
        ·
         simp only [Act.put, lt1_, lt2_, lt3_, i64_w, i32_w]
         rfl
        refine pure_ (i := 9) (N := some 33) (v := ?_) (a' := ?_) #[true, false, true, true, false, true, false, true, false, true, false, false, false, false, false, false, false] rfl rfl (any_of HT_.out (by kernel_rfl)) (fun _ _ _ h => h) (Or.inl ⟨by rfl, ?_⟩) ?_ ?_
        rotate_left
        ·
         intro w'
         go_simp
         with_reducible rfl
        rotate_left
        ·
         simp only [Act.put, lt1_, lt2_, lt3_, i64_w, i32_w]
         rfl
        refine pure_ (i := 12) (N := some 36) (v := ?_) (a' := ?_) #[true, false, true, true, false, true, false, true, false, true, false, false, true, false, false, false, false] rfl rfl (any_of HT_.out (by kernel_rfl)) (fun _ _ _ h => h) (Or.inl ⟨by rfl, ?_⟩) ?_ ?_
        rotate_left
        ·
         intro w'
         go_simp
         with_reducible rfl
        rotate_left
        ·
         simp only [Act.put, lt1_, lt2_, lt3_, i64_w, i32_w]
         rfl
        refine take_ (i := 1) (N := some 25) (v := ?_) (a' := ?_) #[true, true, true, true, false, true, false, true, false, true, false, false, true, false, false, false, false] rfl rfl (take_ofW HT_.out HW_.out (by kernel_rfl)) (fun _ _ _ h => h) (Or.inl ⟨by rfl, ?_⟩) hHeld ?_ ?_
        rotate_left
        ·
         rintro w' ⟨s0, s1, s2⟩
         go_simp
         with_reducible rfl
        rotate_left
        ·
         simp only [Act.put, lt1_, lt2_, lt3_, i64_w, i32_w]
         rfl
        refine take_ (i := 4) (N := some 28) (v := ?_) (a' := ?_) #[true, true, true, true, true, true, false, true, false, true, false, false, true, false, false, false, false] rfl rfl (take_ofW HT_.out HW_.out (by kernel_rfl)) (fun _ _ _ h => h) (Or.inl ⟨by rfl, ?_⟩) hHeld ?_ ?_
        rotate_left
        ·
         rintro w' ⟨s0, s1, s2⟩
         go_simp
         with_reducible rfl
        rotate_left
        ·
         simp only [Act.put, lt1_, lt2_, lt3_, i64_w, i32_w]
         rfl
        refine take_ (i := 8) (N := some 32) (v := ?_) (a' := ?_) #[true, true, true, true, true, true, false, true, true, true, false, false, true, false, false, false, false] rfl rfl (take_ofW HT_.out HW_.out (by kernel_rfl)) (fun _ _ _ h => h) (Or.inl ⟨by rfl, ?_⟩) hHeld ?_ ?_
        rotate_left
        ·
         rintro w' ⟨s0, s1, s2⟩
         go_simp
         with_reducible rfl
        rotate_left
        ·
         simp only [Act.put, lt1_, lt2_, lt3_, i64_w, i32_w]
         rfl
        refine pure_ (i := 10) (N := some 34) (v := ?_) (a' := ?_) #[true, true, true, true, true, true, false, true, true, true, true, false, true, false, false, false, false] rfl rfl (any_of HT_.out (by kernel_rfl)) (fun _ _ _ h => h) (Or.inl ⟨by rfl, ?_⟩) ?_ ?_
        rotate_left
        ·
         intro w'
         go_simp
         with_reducible rfl
        rotate_left
        ·
         simp only [Act.put, lt1_, lt2_, lt3_, i64_w, i32_w]
         rfl
        refine take_ (i := 13) (N := some 37) (v := ?_) (a' := ?_) #[true, true, true, true, true, true, false, true, true, true, true, false, true, true, false, false, false] rfl rfl (take_ofW HT_.out HW_.out (by kernel_rfl)) (fun _ _ _ h => h) (Or.inl ⟨by rfl, ?_⟩) hHeld ?_ ?_
        rotate_left
        ·
         rintro w' ⟨s0, s1, s2⟩
         go_simp
         with_reducible rfl
        rotate_left
        ·
         simp only [Act.put, lt1_, lt2_, lt3_, i64_w, i32_w]
         rfl
        refine one_ (i := 6) (N := some 30) #[true, true, true, true, true, true, true, true, true, true, true, false, true, true, false, false, false] rfl rfl (one_of HT_.out (by kernel_rfl)) (by decide) (fun K hK => ?_)
        refine goes_ Try.func32 (by kernel_rfl) rfl #[.slice A0_2 l0_2.length c0_2, .int .i64 a1] (by rfl) rfl rfl au_ ?_
        with_reducible refine (tapearchiveref26_end.calls _ _ l0_2 a1 t301 _ ?side1 ?side2 A26.out).mono ?_
        (case side1 => repeat (first | exact (Kd.C_below HR0_2.out HB.out) | (with_reducible refine Kd.C_alloc ?_ _) | (with_reducible refine Kd.C_drewN ?_ _) | (with_reducible refine Kd.C_drew ?_)))
        (case side2 => exact HC0_2.out)
        rintro e w' ⟨rfl, ⟨nd, rfl⟩⟩
        refine ⟨_, rfl, ?_⟩
        refine hK.out _ _ ⟨(bc_ BK298.out 0).trans rfl, (bc_ BK298.out 1).trans rfl, (bc_ BK298.out 2).trans rfl⟩ (fun hHeld => ?_)
        clear hK K
        refine norm_ (a' := ?_) ?_ ?_
        rotate_left
        ·
         show Act.put _ (some 30) _ = _
         simp only [Act.put, lt1_, lt2_, lt3_, i64_w, i32_w]
         rfl
        refine one_ (i := 11) (N := some 35) #[true, true, true, true, true, true, true, true, true, true, true, true, true, true, false, false, false] rfl rfl (one_of HT_.out (by kernel_rfl)) (by decide) (fun K hK => ?_)
        refine goes_ Try.func33 (by kernel_rfl) rfl #[.slice A31 y302.length c31] (by rfl) rfl rfl au_ ?_
        with_reducible refine (tapearchiveref26_copied.calls kj12 _ _ y302 t306 _ ?side1 ?side2 A29.out).mono ?_
        (case side1 => repeat (first | exact (Kd.C_below HR305.out (pb2_ HB.out GE298.out GE299.out)) | (with_reducible refine Kd.C_alloc ?_ _) | (with_reducible refine Kd.C_drewN ?_ _) | (with_reducible refine Kd.C_drew ?_)))
        (case side2 => exact HC305.out)
        rintro e w32 ⟨v307, rfl, ho0, hb⟩
        refine ⟨_, rfl, ?_⟩
        have n0_ := am_ (Kd.S_lower ho0 (bz_ (pb2_ HB.out GE298.out GE299.out)))
        have n1_ := am_ (bw_ (g := gb298) (o := .cells #[.int .i64 a0_0, .int .i64 a0_1, .slice A0_2 l0_2.length c0_2] 24 (0, 0)) (pk_ BK298.out) hb)
        have n2_ := am_ (bw_ (g := gb299) (o := .cells #[.int .i64 0, .int .i64 0, .int .i64 0, .slice none 0 0, .int .i64 0] 38 (0, 0)) (pk_ BK299.out) hb)
        have n3_ := am_ (sp_ (pb2_ HB.out GE298.out GE299.out) hb)
        clear BK298
        clear BK299
        clear HB
        have HO308 := n0_
        have BK298 := n1_
        have BK299 := n2_
        have HB := n3_
        clear n0_ n1_ n2_ n3_
        (try clear hb)
        (try clear hb2)
        (try clear hk)
        (try clear hi)
        (try clear ho0)
        obtain ⟨Ao33, co33, eo33⟩ := Kd.S_slice HO308.out
        (first | subst eo33 | (injection eo33 with f1_ f2_ f3_; have f4_ := f1_.symm; have f5_ := f3_.symm; clear f1_ f2_ f3_; subst f4_; subst f5_))
        refine hK.out _ _ ⟨(bc_ BK298.out 0).trans rfl, (bc_ BK298.out 1).trans rfl, (bc_ BK298.out 2).trans rfl⟩ (fun hHeld => ?_)
        clear hK K
        refine norm_ (a' := ?_) ?_ ?_
        rotate_left
        ·
         show Act.put _ (some 35) _ = _
         simp only [Act.put, lt1_, lt2_, lt3_, i64_w, i32_w]
         rfl
        refine pure_ (i := 14) (N := some 38) (v := ?_) (a' := ?_) #[true, true, true, true, true, true, true, true, true, true, true, true, true, true, true, false, false] rfl rfl (any_of HT_.out (by kernel_rfl)) (fun _ _ _ h => h) (Or.inl ⟨by rfl, ?_⟩) ?_ ?_
        rotate_left
        ·
         intro w'
         go_simp
         with_reducible rfl
        rotate_left
        ·
         simp only [Act.put, lt1_, lt2_, lt3_, i64_w, i32_w]
         rfl
        refine one_ (i := 15) (N := none) #[true, true, true, true, true, true, true, true, true, true, true, true, true, true, true, true, false] rfl rfl (one_of HT_.out (by kernel_rfl)) (by decide) (fun K hK => ?_)
        have hs34 : w32.cell? ⟨gb299, 0, none⟩ = some (.int .i64 0) := (bc_ BK299.out 0).trans rfl
        have hfs34 := bf_ BK299.out 0
        have hns34_0 := NB298_299.out
        have hms34_0 := NB299_298.out
        have hs35 : w32.cell? ⟨gb299, 1, none⟩ = some (.int .i64 0) := (bc_ BK299.out 1).trans rfl
        have hfs35 := bf_ BK299.out 1
        have hns35_0 := NB298_299.out
        have hms35_0 := NB299_298.out
        have hs36 : w32.cell? ⟨gb299, 2, none⟩ = some (.int .i64 0) := (bc_ BK299.out 2).trans rfl
        have hfs36 := bf_ BK299.out 2
        have hns36_0 := NB298_299.out
        have hms36_0 := NB299_298.out
        have hs37 : w32.cell? ⟨gb299, 3, none⟩ = some (.slice none 0 0) := (bc_ BK299.out 3).trans rfl
        have hfs37 := bf_ BK299.out 3
        have hns37_0 := NB298_299.out
        have hms37_0 := NB299_298.out
        have hs38 : w32.cell? ⟨gb299, 4, none⟩ = some (.int .i64 0) := (bc_ BK299.out 4).trans rfl
        have hfs38 := bf_ BK299.out 4
        have hns38_0 := NB298_299.out
        have hms38_0 := NB299_298.out
        refine skip_ (w1 := ?_) (by rfl) rfl ?_ ?_
        rotate_left
        ·
         go_simp
         rfl
        refine hK.out _ _ ⟨((cell_far (p := ⟨gb299, _, none⟩) NB298_299.out _).trans (((cell_far (p := ⟨gb299, _, none⟩) NB298_299.out _).trans (((cell_far (p := ⟨gb299, _, none⟩) NB298_299.out _).trans (((cell_far (p := ⟨gb299, _, none⟩) NB298_299.out _).trans (((cell_far (p := ⟨gb299, _, none⟩) NB298_299.out _).trans (hHeld.1)))))))))), ((cell_far (p := ⟨gb299, _, none⟩) NB298_299.out _).trans (((cell_far (p := ⟨gb299, _, none⟩) NB298_299.out _).trans (((cell_far (p := ⟨gb299, _, none⟩) NB298_299.out _).trans (((cell_far (p := ⟨gb299, _, none⟩) NB298_299.out _).trans (((cell_far (p := ⟨gb299, _, none⟩) NB298_299.out _).trans (hHeld.2.1)))))))))), ((cell_far (p := ⟨gb299, _, none⟩) NB298_299.out _).trans (((cell_far (p := ⟨gb299, _, none⟩) NB298_299.out _).trans (((cell_far (p := ⟨gb299, _, none⟩) NB298_299.out _).trans (((cell_far (p := ⟨gb299, _, none⟩) NB298_299.out _).trans (((cell_far (p := ⟨gb299, _, none⟩) NB298_299.out _).trans (hHeld.2.2))))))))))⟩ (fun hHeld => ?_)
        clear hK K
        refine pure_ (i := 16) (N := some 5) (v := ?_) (a' := ?_) #[true, true, true, true, true, true, true, true, true, true, true, true, true, true, true, true, true] rfl rfl (any_of HT_.out (by kernel_rfl)) (fun _ _ _ h => h) (Or.inl ⟨by rfl, ?_⟩) ?_ ?_
        rotate_left
        ·
         intro w'
         go_simp
         with_reducible rfl
        rotate_left
        ·
         simp only [Act.put, lt1_, lt2_, lt3_, i64_w, i32_w]
         rfl
        refine done_ (done_of HT_.out (by kernel_rfl)) ?_
        try go_wp2
        refine bodyPost_ret (results_ct rfl _ _ gb299 38 #[.int .i64 a0_0, .int .i64 a1, .int .i64 t301, .slice Ao33 t306.length co33, .int .i64 a0_1] (0, 0) _ rfl (by (with_reducible repeat (first | refine bn_ ?_ _ | refine bd_ ?_ | refine ba_ ?_ _)); refine blk_put (cs := #[.int .i64 a0_0, .int .i64 a1, .int .i64 t301, .slice Ao33 t306.length co33, .int .i64 0]) ?_ 4 _ rfl; (with_reducible repeat (first | refine bn_ ?_ _ | refine bd_ ?_ | refine ba_ ?_ _)); refine blk_put (cs := #[.int .i64 a0_0, .int .i64 a1, .int .i64 t301, .slice none 0 0, .int .i64 0]) ?_ 3 _ rfl; (with_reducible repeat (first | refine bn_ ?_ _ | refine bd_ ?_ | refine ba_ ?_ _)); refine blk_put (cs := #[.int .i64 a0_0, .int .i64 a1, .int .i64 0, .slice none 0 0, .int .i64 0]) ?_ 2 _ rfl; (with_reducible repeat (first | refine bn_ ?_ _ | refine bd_ ?_ | refine ba_ ?_ _)); refine blk_put (cs := #[.int .i64 a0_0, .int .i64 0, .int .i64 0, .slice none 0 0, .int .i64 0]) ?_ 1 _ rfl; (with_reducible repeat (first | refine bn_ ?_ _ | refine bd_ ?_ | refine ba_ ?_ _)); refine blk_put (cs := #[.int .i64 0, .int .i64 0, .int .i64 0, .slice none 0 0, .int .i64 0]) ?_ 0 _ rfl; (with_reducible repeat (first | refine bn_ ?_ _ | refine bd_ ?_ | refine ba_ ?_ _)); exact BK299.out) Try.underlying38 rfl (by kernel_rfl)) rfl ?_
        exact ⟨_, by first | rfl | (simp [errW_none, errW_some] <;> rfl) | (simp [*, errW_none, errW_some] <;> rfl), by (with_reducible repeat (first | apply Kd.S_alloc | apply Kd.S_drewN | apply Kd.S_drew)); exact Kd.S_mono (Kd.S_far (p := ⟨gb299, 4, none⟩) (Kd.S_far (p := ⟨gb299, 3, none⟩) (Kd.S_far (p := ⟨gb299, 2, none⟩) (Kd.S_far (p := ⟨gb299, 1, none⟩) (Kd.S_far (p := ⟨gb299, 0, none⟩) (Kd.S_types HO308.out BK299.out (by decide)) (fun _ hk => hk.2) (.int .i64 a0_0)) (fun _ hk => hk.2) (.int .i64 a1)) (fun _ hk => hk.2) (.int .i64 t301)) (fun _ hk => hk.2) (.slice Ao33 t306.length co33)) (fun _ hk => hk.2) (.int .i64 a0_1)) (fun _ hk => trivial), pb2_ HB.out GE298.out GE299.out⟩
       ·
        rw [if_neg c28] at H
        exact absurd H (by simp)
      ·
       rw [if_neg c27] at H
       exact absurd H (by simp)
 ·
  replace c4 := Bool.eq_false_iff.mpr c4
  subst c4
  have H1 : (some (0, 0, 0, ([] : List (S79)), 0, 8)) = some (r1, r2, r3, r4, r5, r6) := by rw [if_neg (show ¬ (false = true) by decide)] at H; exact H
  clear H
  have H := H1
  clear H1
  simp only [Option.some.injEq, Prod.mk.injEq] at H
  obtain ⟨rfl, rfl, rfl, rfl, rfl, rfl⟩ := H
  go_enter Try.func12, Try.ntmps12
  go_wp2_with (first | ((with_reducible refine gate_dst (N := 2) rfl ?_); (try (refine gate_guard (by rfl) ?_; dsimp only)); refine box_event ?hg (N := 2) ?hd (cs := #[.int .i64 a0_0, .int .i64 a0_1, .slice A0_2 l0_2.length c0_2]) (t := 24) ?hr ?_; (case hd => rfl); (case hg => rfl); (case hr => first | (go_simp; done) | (go_simp; rfl)); intro gb298 hg w39 hbox hb; have n0_ := am_ (sp_ (pb0_ HB.out) hb); have n1_ := am_ (hbox); have n2_ := am_ ((by rw [hg]; exact (bz_ (pb0_ HB.out)) : w.heap.size ≤ gb298)); have n3_ := am_ ((by rw [hg]; exact (bz_ (pb0_ HB.out)) : w.heap.size ≤ gb298)); clear HB; have HB := n0_; have BK298 := n1_; have GW298 := n2_; have GE298 := n3_; clear n0_ n1_ n2_ n3_; clear hb hbox hg) | ((with_reducible refine gate_dst (N := 4) rfl ?_); (try (refine gate_guard (by rfl) ?_; dsimp only)); refine box_event ?hg (N := 4) ?hd (cs := #[.int .i64 0, .int .i64 0, .int .i64 0, .slice none 0 0, .int .i64 0]) (t := 38) ?hr ?_; (case hd => rfl); (case hg => rfl); (case hr => first | (go_simp; done) | (go_simp; rfl)); intro gb299 hg w40 hbox hb; have n0_ := am_ (bw_ (g := gb298) (o := .cells #[.int .i64 a0_0, .int .i64 a0_1, .slice A0_2 l0_2.length c0_2] 24 (0, 0)) (pk_ BK298.out) hb); have n1_ := am_ (sp_ (pb1_ HB.out GE298.out) hb); have n2_ := am_ (hbox); have n3_ := am_ ((by rw [hg]; exact (bz_ (pb1_ HB.out GE298.out)) : w.heap.size ≤ gb299)); have n4_ := am_ ((by rw [hg]; exact (bz_ (pb1_ HB.out GE298.out)) : w.heap.size ≤ gb299)); have n5_ := am_ ((by rw [hg]; exact Nat.ne_of_lt (blk_lt (g := gb298) (o := .cells #[.int .i64 a0_0, .int .i64 a0_1, .slice A0_2 l0_2.length c0_2] 24 (0, 0)) (pk_ BK298.out)) : gb298 ≠ gb299)); have n6_ := am_ ((by rw [hg]; exact Nat.ne_of_gt (blk_lt (g := gb298) (o := .cells #[.int .i64 a0_0, .int .i64 a0_1, .slice A0_2 l0_2.length c0_2] 24 (0, 0)) (pk_ BK298.out)) : gb299 ≠ gb298)); clear BK298; clear HB; have BK298 := n0_; have HB := n1_; have BK299 := n2_; have GW299 := n3_; have GE299 := n4_; have NB298_299 := n5_; have NB299_298 := n6_; clear n0_ n1_ n2_ n3_ n4_ n5_ n6_; clear hb hbox hg; have hnb41 := NB298_299.out; have hnc41 := NB299_298.out; have hcz42_0 : w40.cell? ⟨gb298, 0, none⟩ = some (.int .i64 a0_0) := (bc_ BK298.out 0).trans rfl; have hcz42_1 : w40.cell? ⟨gb298, 1, none⟩ = some (.int .i64 a0_1) := (bc_ BK298.out 1).trans rfl; have hcz42_2 : w40.cell? ⟨gb298, 2, none⟩ = some (.slice A0_2 l0_2.length c0_2) := (bc_ BK298.out 2).trans rfl; have hfz42_0 := bf_ BK298.out 0; have hfz42_1 := bf_ BK298.out 1; have hfz42_2 := bf_ BK298.out 2) | ((with_reducible refine gate_callee (f := 31) rfl ?_); refine goesL_ (some 7) rfl rfl Try.func31 (by kernel_rfl) rfl #[.agg #[.int .i64 a0_0, .int .i64 a0_1, .slice A0_2 l0_2.length c0_2]] rfl au_ ?_; (with_reducible refine (tapearchiveref26_valid.calls k a0_0 a0_1 _ _ l0_2 false _ ?side1 ?side2 A3.out).mono ?_); (case side1 => repeat (first | exact (Kd.C_below HR0_2.out HB.out) | (with_reducible refine Kd.C_alloc ?_ _) | (with_reducible refine Kd.C_drewN ?_ _) | (with_reducible refine Kd.C_drew ?_))); (case side2 => exact HC0_2.out); rintro e w43 ⟨rfl, hb⟩; refine ⟨_, rfl, ?_⟩; have n0_ := am_ (bw_ (g := gb298) (o := .cells #[.int .i64 a0_0, .int .i64 a0_1, .slice A0_2 l0_2.length c0_2] 24 (0, 0)) (pk_ BK298.out) hb); have n1_ := am_ (bw_ (g := gb299) (o := .cells #[.int .i64 0, .int .i64 0, .int .i64 0, .slice none 0 0, .int .i64 0] 38 (0, 0)) (pk_ BK299.out) hb); have n2_ := am_ (sp_ (pb2_ HB.out GE298.out GE299.out) hb); clear BK298; clear BK299; clear HB; have BK298 := n0_; have BK299 := n1_; have HB := n2_; clear n0_ n1_ n2_; (try clear hb); (try clear hb2); (try clear hk); (try clear hi); have hcz44_0 : w43.cell? ⟨gb299, 0, none⟩ = some (.int .i64 0) := (bc_ BK299.out 0).trans rfl; have hcz44_1 : w43.cell? ⟨gb299, 1, none⟩ = some (.int .i64 0) := (bc_ BK299.out 1).trans rfl; have hcz44_2 : w43.cell? ⟨gb299, 2, none⟩ = some (.int .i64 0) := (bc_ BK299.out 2).trans rfl; have hcz44_3 : w43.cell? ⟨gb299, 3, none⟩ = some (.slice none 0 0) := (bc_ BK299.out 3).trans rfl; have hcz44_4 : w43.cell? ⟨gb299, 4, none⟩ = some (.int .i64 0) := (bc_ BK299.out 4).trans rfl; have hfz44_0 := bf_ BK299.out 0; have hfz44_1 := bf_ BK299.out 1; have hfz44_2 := bf_ BK299.out 2; have hfz44_3 := bf_ BK299.out 3; have hfz44_4 := bf_ BK299.out 4))
  refine bodyPost_ret (results_ct rfl _ _ gb299 38 #[.int .i64 0, .int .i64 0, .int .i64 0, .slice none 0 0, .int .i64 0] (0, 0) _ rfl (by (with_reducible repeat (first | refine bn_ ?_ _ | refine bd_ ?_ | refine ba_ ?_ _)); refine blk_put (cs := #[.int .i64 0, .int .i64 0, .int .i64 0, .slice none 0 0, .int .i64 0]) ?_ 4 _ rfl; (with_reducible repeat (first | refine bn_ ?_ _ | refine bd_ ?_ | refine ba_ ?_ _)); refine blk_put (cs := #[.int .i64 0, .int .i64 0, .int .i64 0, .slice none 0 0, .int .i64 0]) ?_ 3 _ rfl; (with_reducible repeat (first | refine bn_ ?_ _ | refine bd_ ?_ | refine ba_ ?_ _)); refine blk_put (cs := #[.int .i64 0, .int .i64 0, .int .i64 0, .slice none 0 0, .int .i64 0]) ?_ 2 _ rfl; (with_reducible repeat (first | refine bn_ ?_ _ | refine bd_ ?_ | refine ba_ ?_ _)); refine blk_put (cs := #[.int .i64 0, .int .i64 0, .int .i64 0, .slice none 0 0, .int .i64 0]) ?_ 1 _ rfl; (with_reducible repeat (first | refine bn_ ?_ _ | refine bd_ ?_ | refine ba_ ?_ _)); refine blk_put (cs := #[.int .i64 0, .int .i64 0, .int .i64 0, .slice none 0 0, .int .i64 0]) ?_ 0 _ rfl; (with_reducible repeat (first | refine bn_ ?_ _ | refine bd_ ?_ | refine ba_ ?_ _)); exact BK299.out) Try.underlying38 rfl (by kernel_rfl)) rfl ?_
  exact ⟨_, by first | rfl | (simp [errW_none, errW_some] <;> rfl) | (simp [*, errW_none, errW_some] <;> rfl), by first | exact Kd.S_nil _ _ _ _ _ | exact Kd.N_nil _ _ _ _ _ | exact Kd.V_nil _ _ _ _ _ | exact Kd.Q_nil _ _ _ _ _ | exact Kd.R_nil _ _ _ _ _, pb2_ HB.out GE298.out GE299.out⟩
end Go.Proofs.Ytbigcpjlahkggaa.Q
