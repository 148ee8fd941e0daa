import Derived.Test.YtbigcpjlahkggaaKReplicaCommits3
set_option linter.unusedVariables false
set_option linter.unusedSimpArgs false
namespace Go.Proofs.Ytbigcpjlahkggaa.Q
open Go.RowKit Go.Proofs.YtbigcpjlahkggaaW.PrintWords Go.Proofs.YtbigcpjlahkggaaW.PrintLast Go.Proofs.YtbigcpjlahkggaaW.PrintMore
attribute [local go_sem] max2_int min2_int max_two min_two max_three min_three max_four min_four
attribute [local go_sem ↓] isSome_setCell
attribute [local go_sem] string_gtr
set_option linter.unusedVariables false
set_option linter.unusedSimpArgs false
def replica_copied.l0 : Nat → List (S87) → List (S87) → Int → Int → Option ((List (S87)))
 | 0, _, _, _, _ => none
 | k + 1, x3, x9, x10, x11 => if x11 < x10 then (if 0 ≤ x11 then (if x11 < (x9.length : Int) then ((slices_Clone_byte_byte.f ((rd_T87 x9 x11).f1)).bind fun t132 => (if x11 < (x3.length : Int) then (replica_copied.l0 k (x3.set (x11 : Int).toNat (⟨(rd_T87 x9 x11).f0, t132⟩ : S87)) x9 x10 (wrap64 (x11 + 1))) else (none))) else (none)) else (none)) else (some x3)
def replica_copied.f (k : Nat) (l0 : List (S87)) : Option ((List (S87))) := if 0 ≤ (l0.length : Int) then (if ((l0.length : Int) : Int).toNat ≤ 8796093022208 then (replica_copied.l0 k (List.replicate ((l0.length : Int) : Int).toNat z87) l0 (l0.length : Int) 0) else (none)) else (none)
def replica_copied.T5 : Bool × List (List Nat × List Nat) := (true, [([], []), ([], []), ([], []), ([2], [2]), ([], []), ([4], [4]), ([5], [5]), ([3, 6], [3, 6]), ([0, 1, 0, 1, 2, 3, 4, 5, 6, 7], [0, 1]), ([8, 7, 6, 0, 1, 2, 3, 4, 5, 6, 7], [7, 8])])
def replica_copied.B5 : List Nat := [0, 0, 0, 4, 0, 16, 48, 124, 255, 511]
theorem replica_copied.tab5 : rtab .any (opsOf Try.f29 5) = replica_copied.T5 := by kernel_rfl
theorem replica_copied.bits5 : waitsOk replica_copied.T5.2 replica_copied.B5 = true := by kernel_rfl
set_option maxHeartbeats 8000000 in
set_option maxRecDepth 100000 in
theorem replica_copied.calls (k : Nat) (P0_ : Nat → Prop) (A0 : Option Addr) (c0 : Nat) (l0 : List (S87)) (r : List (S87)) (w : World) (hs0 : Kd.V k87 87 w w.heap.size (fun k_ => P0_ k_) (.slice A0 l0.length c0) l0) (h : replica_copied.f k l0 = some r) :
  Calls Try.prog 29 #[.slice A0 l0.length c0] w fun e w' => ∃ v0_ : Value, e = .returned (v0_) ∧ Kd.N k87 87 w' w.heap.size (fun k_ => (P0_ k_ ∨ w.heap.size ≤ k_)) v0_ r ∧ Below w.heap.size w w' := by
 have hu87 := Try.underlying87
 have HO0 := am_ (show Kd.V k87 87 w w.heap.size (fun k_ => (P0_ k_ ∨ w.heap.size ≤ k_)) (.slice A0 l0.length c0) l0 from vm_ hs0 (fun k_ hk => .inl hk))
 have HB := am_ (Below.refl w.heap.size w)
 have H : (if 0 ≤ (l0.length : Int) then (if ((l0.length : Int) : Int).toNat ≤ 8796093022208 then (replica_copied.l0 k (List.replicate ((l0.length : Int) : Int).toNat z87) l0 (l0.length : Int) 0) else (none)) else (none)) = some r := h
 clear h
 by_cases c2 : 0 ≤ (l0.length : Int)
 ·
  rw [if_pos c2] at H
  have c2b0 := eq_true c2
  have c2b1 : decide (0 ≤ (l0.length : Int)) = true := de_ c2
  clear c2
  by_cases c3 : ((l0.length : Int) : Int).toNat ≤ 8796093022208
  ·
   rw [if_pos c3] at H
   have c3b0 := eq_true c3
   have c3b1 : decide (((l0.length : Int) : Int).toNat ≤ 8796093022208) = true := de_ c3
   clear c3
   obtain ⟨y127, hy127⟩ : ∃ y_ : List (S87), y_ = (List.replicate ((l0.length : Int) : Int).toNat z87) := ⟨_, rfl⟩
   replace H : (replica_copied.l0 k y127 l0 (l0.length : Int) 0) = some r := by first | (rw [hy127]; with_reducible exact H) | (have H2_ := (Option.bind_some _ _).symm.trans H; rw [hy127]; with_reducible exact H2_) | (have H2_ := (Option.bind_some _ _).symm.trans H; with_reducible exact H2_) | with_reducible exact H | (rw [hy127]; exact H) | exact H
   have Ny127 := am_ hy127
   clear hy127
   have H' := am_ H
   clear H
   go_enter Try.func29, Try.ntmps29
   go_wp2_with (first | ((with_reducible refine gate_dst (N := 8) rfl ?_); refine Kd.N_make k87 _ 87 rfl (N' := 8) rfl 28 _ _ rfl (l0.length : Int) rfl rfl Try.underlying28 (.agg #[(.int .i64 0), (.slice none 0 0)]) 32 info87 rfl (by decide) (by omega) z87 (ok := fun k_ => w.heap.size ≤ k_) (okp := fun _ => False) (k87_mkF _ _ z87 (Nat.le_refl _) (Kd.F_nil _ _ _)) (fun _ hk => hk.elim) (Nat.le_refl _) (ot_ (by first | (with_reducible assumption) | assumption)) (Nat.le_trans (Nat.mul_le_mul_right _ (ot_ (by first | (with_reducible assumption) | assumption) : (l0.length : Int).toNat ≤ 8796093022208)) (by omega)) (Below.refl _ _) (Nat.le_refl _) ?_; intro v128 w4 ho5 hb hg_ hnew_; clear hg_ hnew_; (first | rw [← Ny127.out] at ho5 | (simp only [Int.reduceToNat] at ho5; rw [← Ny127.out] at ho5)); have n0_ := am_ (Kd.V_elder' (pV_ HO0.out) (Kd.N_base ho5) hb); have n1_ := am_ (nl_ (nm_ (ok' := fun k_ => (P0_ k_ ∨ w.heap.size ≤ k_)) ho5 (fun k_ hk_ => (.inr (Nat.le_trans (bz_ (pb0_ HB.out)) hk_)))) (bz_ (pb0_ HB.out))); have n2_ := am_ (sp_ (pb0_ HB.out) hb); clear HO0; clear HB; have HO0 := n0_; have HO129 := n1_; have HB := n2_; clear n0_ n1_ n2_; clear hb ho5))
   go_loopg [11] k (fun kq v11 w' => ∃ (x3_1 : List (S87)) (x11_1 : Int), v11 = .int .i64 x11_1 ∧ Aside0 (replica_copied.l0 kq x3_1 l0 (l0.length : Int) x11_1 = some r) ∧ Aside0 (kq ≤ k) ∧ Aside0 (Kd.N k87 87 w' w.heap.size (fun k_ => (P0_ k_ ∨ w.heap.size ≤ k_)) v128 x3_1) ∧ Aside0 (Kd.V k87 87 w' w.heap.size (fun k_ => (P0_ k_ ∨ w.heap.size ≤ k_) ∧ some k_ ≠ (v128 : Value).ownBlock) (.slice A0 l0.length c0) l0) ∧ Aside0 (Below w.heap.size w w'))
   case atStart => exact ⟨(y127), (0), (by first | rfl | (simp; done) | (simp [*]; done)), H', ⟨Nat.le_refl _⟩, ⟨by (with_reducible repeat (first | apply na_ | apply nn_ | apply nd_)); exact HO129.out⟩, ⟨by (with_reducible repeat (first | apply va_ | apply vn_ | apply vd_)); exact HO0.out⟩, ⟨pb0_ HB.out⟩⟩
   case round =>
    clear H'
    try clear c2
    try clear c2b0
    try clear c2b1
    try clear p2
    try clear c3
    try clear c3b0
    try clear c3b1
    obtain ⟨x3_1, x11_1, rfl, HA, HK1, HO_3, HO_9, HB⟩ := hrel
    cases gk with
    | zero => exact absurd HA.out (by simp [replica_copied.l0])
    | succ k1 =>
     have H := HA.out
     clear HA
     simp only [replica_copied.l0] at H
     by_cases c6 : x11_1 < (l0.length : Int)
     ·
      rw [if_pos c6] at H
      have c6b0 : decide (x11_1 < (l0.length : Int)) = true := de_ c6
      clear c6
      by_cases c7 : 0 ≤ x11_1
      ·
       rw [if_pos c7] at H
       have c7b0 : decide (0 ≤ x11_1) = true := de_ c7
       clear c7
       by_cases c8 : x11_1 < (l0.length : Int)
       ·
        rw [if_pos c8] at H
        have c8b0 : decide (x11_1 < (l0.length : Int)) = true := de_ c8
        clear c8
        replace H := Option.bind_eq_some_iff.mp H
        obtain ⟨t132, A90, H⟩ := H
        replace H : (if x11_1 < (x3_1.length : Int) then (replica_copied.l0 k1 (x3_1.set (x11_1 : Int).toNat (⟨(rd_T87 l0 x11_1).f0, t132⟩ : S87)) l0 (l0.length : Int) (wrap64 (x11_1 + 1))) else (none)) = some r := H
        have A9 := am_ A90
        clear A90
        by_cases c10 : x11_1 < (x3_1.length : Int)
        ·
         rw [if_pos c10] at H
         have c10b0 : decide (x11_1 < (x3_1.length : Int)) = true := de_ c10
         clear c10
         obtain ⟨y135, hy135⟩ : ∃ y_ : List (S87), y_ = (x3_1.set (x11_1 : Int).toNat (⟨(rd_T87 l0 x11_1).f0, t132⟩ : S87)) := ⟨_, rfl⟩
         replace H : (replica_copied.l0 k1 y135 l0 (l0.length : Int) (wrap64 (x11_1 + 1))) = some r := by first | (rw [hy135]; with_reducible exact H) | (have H2_ := (Option.bind_some _ _).symm.trans H; rw [hy135]; with_reducible exact H2_) | (have H2_ := (Option.bind_some _ _).symm.trans H; with_reducible exact H2_) | with_reducible exact H | (rw [hy135]; exact H) | exact H
         have Ny135 := am_ hy135
         clear hy135
         have H' := am_ H
         clear H
         have p130 : 0 ≤ (x11_1 : Int) := ot_ (by first | (with_reducible assumption) | assumption)
         have q130 : x11_1 < (l0.length : Int) := ot_ (by first | (with_reducible assumption) | assumption)
         obtain ⟨ad130, A130_1, c130_1, e130, hx130_0, hx130_1, hl130_1, hi130_1⟩ := at_T87 (Kd.V_reads' HO_9.out).2.2 x11_1 p130 q130
         cases e130
         obtain ⟨ce130, hce130, hMe130, hcc130⟩ := Kd.V_get HO_9.out z87 x11_1 p130 (by first | exact q130 | exact ot_ (by first | (with_reducible assumption) | assumption) | (have e_ := (Kd.V_reads' HO_9.out).1; omega))
         obtain ⟨ua130_1, uc130_1, rfl, ul130_1, ge130_1⟩ := k87_openF hMe130
         have hv130_1 := hcc130 1 _ rfl
         rw [add_field _ _ 1 (by omega)] at hv130_1
         replace hv130_1 := si_ (hv130_1.symm.trans hx130_1)
         injection hv130_1 with hva_ hvn_ hvc_
         rw [hva_] at ge130_1
         rw [hvc_] at ul130_1
         have HL130_1 := am_ (show Kd.V (Kd.int .u8) 5 _ w.heap.size _ _ ((rd_T87 l0 x11_1).f1) from Kd.V_mk ul130_1 ge130_1)
         clear hva_ hvn_ hvc_ ge130_1 ul130_1
         clear hcc130 hce130
         have HR130_1 := am_ hi130_1
         have HC130_1 := am_ hl130_1
         clear hi130_1 hl130_1
         replace p130 := eq_true p130
         replace q130 := eq_true q130
         try go_wp2_with (first | ((with_reducible refine gate_dst (N := 5) rfl ?_); refine box_event ?hg (N := 5) ?hd (cs := #[.int .i64 0, .slice none 0 0]) (t := 87) ?hr ?_; (case hd => rfl); (case hg => rfl); (case hr => first | (go_simp; done) | (go_simp; rfl)); intro gb131 hg w12 hbox hb; have n0_ := am_ (nb_ (Kd.N_elderB (pN_ HO_3.out) gb131 (le_ hg.symm)) hb); have n1_ := am_ (vb_ (Kd.V_elderB (pV_ HO_9.out) gb131 (le_ hg.symm)) hb); have n2_ := am_ (vb_ (Kd.V_elderB (pV_ HL130_1.out) gb131 (le_ hg.symm)) hb); have n3_ := am_ (Kd.C_below (by repeat (first | (with_reducible exact HR130_1.out) | (with_reducible refine Kd.C_alloc ?_ _) | (with_reducible refine Kd.C_drewN ?_ _) | (with_reducible refine Kd.C_drew ?_) | exact HR130_1.out)) hb); have n4_ := am_ (sp_ (pb0_ HB.out) hb); have n5_ := am_ (hbox); have n6_ := am_ ((by rw [hg]; exact (bz_ (pb0_ HB.out)) : w.heap.size ≤ gb131)); have n7_ := am_ ((by rw [hg]; exact (bz_ (pb0_ HB.out)) : w.heap.size ≤ gb131)); clear HO_3; clear HO_9; clear HL130_1; clear HR130_1; clear HB; have HO_3 := n0_; have HO_9 := n1_; have HL130_1 := n2_; have HR130_1 := n3_; have HB := n4_; have BK131 := n5_; have GW131 := n6_; have GE131 := n7_; clear n0_ n1_ n2_ n3_ n4_ n5_ n6_ n7_; clear hb hbox hg; have hcz13_0 : w12.cell? ⟨gb131, 0, none⟩ = some (.int .i64 0) := (bc_ BK131.out 0).trans rfl; have hcz13_1 : w12.cell? ⟨gb131, 1, none⟩ = some (.slice none 0 0) := (bc_ BK131.out 1).trans rfl; have hfz13_0 := bf_ BK131.out 0; have hfz13_1 := bf_ BK131.out 1))
         have n0_ : Aside0 (Kd.N k87 87 ((w12.setCell ⟨gb131, 0, none⟩ (.int .i64 ((rd_T87 l0 x11_1).f0))).setCell ⟨gb131, 1, none⟩ (.slice A130_1 ((rd_T87 l0 x11_1).f1).length c130_1)) w.heap.size (fun k_ => (P0_ k_ ∨ w.heap.size ≤ k_) ∧ k_ ≠ gb131) v128 x3_1) := ⟨by (with_reducible repeat (first | apply na_ | apply nn_ | apply nd_)); exact nm_ (nf_ (p := ⟨gb131, 1, none⟩) (nf_ (p := ⟨gb131, 0, none⟩) (nm_ HO_3.out (fun k_ hk => (⟨hk, hk.2⟩ : _ ∧ k_ ≠ gb131))) (fun _ hk => hk.2) (.int .i64 ((rd_T87 l0 x11_1).f0))) (fun _ hk => hk.2) (.slice A130_1 ((rd_T87 l0 x11_1).f1).length c130_1)) (fun _ hk => ⟨hk.1.1, hk.1.2⟩)⟩
         have n1_ : Aside0 (Kd.V k87 87 ((w12.setCell ⟨gb131, 0, none⟩ (.int .i64 ((rd_T87 l0 x11_1).f0))).setCell ⟨gb131, 1, none⟩ (.slice A130_1 ((rd_T87 l0 x11_1).f1).length c130_1)) w.heap.size (fun k_ => (P0_ k_ ∨ w.heap.size ≤ k_) ∧ some k_ ≠ (v128 : Value).ownBlock ∧ k_ ≠ gb131) (.slice (some ad130) l0.length c0) l0) := ⟨by (with_reducible repeat (first | apply va_ | apply vn_ | apply vd_)); exact vm_ (Kd.V_far (p := ⟨gb131, 1, none⟩) (Kd.V_far (p := ⟨gb131, 0, none⟩) (vm_ HO_9.out (fun k_ hk => (⟨hk, hk.2⟩ : _ ∧ k_ ≠ gb131))) (fun _ hk => hk.2) (.int .i64 ((rd_T87 l0 x11_1).f0))) (fun _ hk => hk.2) (.slice A130_1 ((rd_T87 l0 x11_1).f1).length c130_1)) (fun _ hk => ⟨hk.1.1.1, ⟨hk.1.1.2, hk.1.2⟩⟩)⟩
         have n2_ : Aside0 (Kd.V (Kd.int .u8) 5 ((w12.setCell ⟨gb131, 0, none⟩ (.int .i64 ((rd_T87 l0 x11_1).f0))).setCell ⟨gb131, 1, none⟩ (.slice A130_1 ((rd_T87 l0 x11_1).f1).length c130_1)) w.heap.size (fun k_ => (P0_ k_ ∨ w.heap.size ≤ k_) ∧ some k_ ≠ (v128 : Value).ownBlock ∧ k_ ≠ gb131) (.slice A130_1 ((rd_T87 l0 x11_1).f1).length c130_1) ((rd_T87 l0 x11_1).f1)) := ⟨by (with_reducible repeat (first | apply va_ | apply vn_ | apply vd_)); exact vm_ (Kd.V_far (p := ⟨gb131, 1, none⟩) (Kd.V_far (p := ⟨gb131, 0, none⟩) (vm_ HL130_1.out (fun k_ hk => (⟨hk, hk.2⟩ : _ ∧ k_ ≠ gb131))) (fun _ hk => hk.2) (.int .i64 ((rd_T87 l0 x11_1).f0))) (fun _ hk => hk.2) (.slice A130_1 ((rd_T87 l0 x11_1).f1).length c130_1)) (fun _ hk => ⟨hk.1.1.1, ⟨hk.1.1.2, hk.1.2⟩⟩)⟩
         have n3_ : Aside0 (((w12.setCell ⟨gb131, 0, none⟩ (.int .i64 ((rd_T87 l0 x11_1).f0))).setCell ⟨gb131, 1, none⟩ (.slice A130_1 ((rd_T87 l0 x11_1).f1).length c130_1)).heap[gb131]? = some (.cells #[.int .i64 ((rd_T87 l0 x11_1).f0), .slice A130_1 ((rd_T87 l0 x11_1).f1).length c130_1] 87 (0, 0))) := ⟨by (with_reducible repeat (first | refine bn_ ?_ _ | refine bd_ ?_ | refine ba_ ?_ _)); refine blk_put (cs := #[.int .i64 ((rd_T87 l0 x11_1).f0), .slice none 0 0]) ?_ 1 _ rfl; (with_reducible repeat (first | refine bn_ ?_ _ | refine bd_ ?_ | refine ba_ ?_ _)); refine blk_put (cs := #[.int .i64 0, .slice none 0 0]) ?_ 0 _ rfl; (with_reducible repeat (first | refine bn_ ?_ _ | refine bd_ ?_ | refine ba_ ?_ _)); exact BK131.out⟩
         have n4_ : Aside0 (Below w.heap.size w ((w12.setCell ⟨gb131, 0, none⟩ (.int .i64 ((rd_T87 l0 x11_1).f0))).setCell ⟨gb131, 1, none⟩ (.slice A130_1 ((rd_T87 l0 x11_1).f1).length c130_1))) := ⟨pb1_ HB.out GE131.out⟩
         (try clear HO_3)
         (try clear HO_9)
         (try clear HL130_1)
         (try clear BK131)
         (try clear HB)
         generalize ((w12.setCell ⟨gb131, 0, none⟩ (.int .i64 ((rd_T87 l0 x11_1).f0))).setCell ⟨gb131, 1, none⟩ (.slice A130_1 ((rd_T87 l0 x11_1).f1).length c130_1)) = w14 at n0_ n1_ n2_ n3_ n4_ ⊢
         have HO_3 := n0_
         have HO_9 := n1_
         have HL130_1 := n2_
         have BK131 := n3_
         have HB := n4_
         clear n0_ n1_ n2_ n3_ n4_
         have n0_ := am_ (nd_ HO_3.out)
         have n1_ := am_ (vd_ HO_9.out)
         have n2_ := am_ (vd_ HL130_1.out)
         have n3_ := am_ (bd_ BK131.out)
         have n4_ := am_ (b1_ HB.out)
         clear HO_3
         clear HO_9
         clear HL130_1
         clear BK131
         clear HB
         have HO_3 := n0_
         have HO_9 := n1_
         have HL130_1 := n2_
         have BK131 := n3_
         have HB := n4_
         clear n0_ n1_ n2_ n3_ n4_
         refine start_ (n := 10) (S := fun w' => w'.cell? ⟨gb131, 0, none⟩ = some (.int .i64 ((rd_T87 l0 x11_1).f0)) ∧ w'.cell? ⟨gb131, 1, none⟩ = some (.slice A130_1 ((rd_T87 l0 x11_1).f1).length c130_1)) (ds := [9]) #[false, false, false, false, false, false, false, false, false, false] (by kernel_rfl) rfl rfl ⟨(bc_ BK131.out 0).trans rfl, (bc_ BK131.out 1).trans rfl⟩ (fun hHeld => ?_); refine with_tabW replica_copied.tab5 replica_copied.bits5 (fun HT_ HW_ => ?_)
         generalize w14.drew = w15 at HO_3 HO_9 HL130_1 BK131 HB hHeld ⊢
         refine pure_ (i := 0) (N := some 16) (v := ?_) (a' := ?_) #[true, false, false, false, false, false, false, false, false, false] rfl rfl (any_of HT_.out (by kernel_rfl)) (fun _ _ _ h => h) (Or.inl ⟨by rfl, ?_⟩) ?_ ?_
         rotate_left
         ·
          intro w'
          go_simp
          with_reducible rfl
         rotate_left
         ·
          simp only [Act.put, lt1_, lt2_, lt3_, i64_w, i32_w]
          rfl
         refine pure_ (i := 1) (N := some 17) (v := ?_) (a' := ?_) #[true, true, false, false, false, false, false, false, false, false] rfl rfl (any_of HT_.out (by kernel_rfl)) (fun _ _ _ h => h) (Or.inl ⟨by rfl, ?_⟩) ?_ ?_
         rotate_left
         ·
          intro w'
          go_simp
          with_reducible rfl
         rotate_left
         ·
          simp only [Act.put, lt1_, lt2_, lt3_, i64_w, i32_w]
          rfl
         refine pure_ (i := 2) (N := some 18) (v := ?_) (a' := ?_) #[true, true, true, false, false, false, false, false, false, false] rfl rfl (any_of HT_.out (by kernel_rfl)) (fun _ _ _ h => h) (Or.inl ⟨by rfl, ?_⟩) ?_ ?_
         rotate_left
         ·
          intro w'
          go_simp
          with_reducible rfl
         rotate_left
         ·
          simp only [Act.put, lt1_, lt2_, lt3_, i64_w, i32_w]
          rfl
         refine pure_ (i := 4) (N := some 20) (v := ?_) (a' := ?_) #[true, true, true, false, true, false, false, false, false, false] rfl rfl (any_of HT_.out (by kernel_rfl)) (fun _ _ _ h => h) (Or.inl ⟨by rfl, ?_⟩) ?_ ?_
         rotate_left
         ·
          intro w'
          go_simp
          with_reducible rfl
         rotate_left
         ·
          simp only [Act.put, lt1_, lt2_, lt3_, i64_w, i32_w]
          rfl
         refine take_ (i := 3) (N := some 19) (v := ?_) (a' := ?_) #[true, true, true, true, true, false, false, false, false, false] rfl rfl (take_ofW HT_.out HW_.out (by kernel_rfl)) (fun _ _ _ h => h) (Or.inl ⟨by rfl, ?_⟩) hHeld ?_ ?_
         rotate_left
         ·
          rintro w' ⟨s0, s1⟩
          go_simp
          with_reducible rfl
         rotate_left
         ·
          simp only [Act.put, lt1_, lt2_, lt3_, i64_w, i32_w]
          rfl
         refine take_ (i := 5) (N := some 21) (v := ?_) (a' := ?_) #[true, true, true, true, true, true, false, false, false, false] rfl rfl (take_ofW HT_.out HW_.out (by kernel_rfl)) (fun _ _ _ h => h) (Or.inl ⟨by rfl, ?_⟩) hHeld ?_ ?_
         rotate_left
         ·
          rintro w' ⟨s0, s1⟩
          go_simp
          with_reducible rfl
         rotate_left
         ·
          simp only [Act.put, lt1_, lt2_, lt3_, i64_w, i32_w]
          rfl
         refine one_ (i := 6) (N := some 22) #[true, true, true, true, true, true, true, false, false, false] rfl rfl (one_of HT_.out (by kernel_rfl)) (by decide) (fun K hK => ?_)
         refine goes_ Try.func34 (by kernel_rfl) rfl #[.slice A130_1 ((rd_T87 l0 x11_1).f1).length c130_1] (by rfl) rfl rfl au_ ?_
         with_reducible refine (slices_Clone_byte_byte.calls (fun k_ => ((P0_ k_ ∨ w.heap.size ≤ k_) ∧ (some k_ ≠ (v128 : Value).ownBlock ∧ k_ ≠ gb131))) _ _ ((rd_T87 l0 x11_1).f1) t132 _ ?side1 A9.out).mono ?_
         (case side1 => exact HL130_1.out)
         rintro e w16 ⟨v133, rfl, ho0, hb⟩
         refine ⟨_, rfl, ?_⟩
         have n0_ := am_ (nb_ (pN_ HO_3.out) hb)
         have n1_ := am_ (vb_ (pV_ HO_9.out) hb)
         have n2_ := am_ (vb_ (pV_ HL130_1.out) hb)
         have n3_ := am_ (Kd.V_lower (vm_ (ok' := fun k_ => (P0_ k_ ∨ w.heap.size ≤ k_) ∧ some k_ ≠ (v128 : Value).ownBlock ∧ k_ ≠ gb131) ho0 (fun k_ hk_ => ⟨Or.elim hk_ (fun hs_ => hs_.1) (fun hn_ => (.inr (Nat.le_trans (bz_ (pb1_ HB.out GE131.out)) hn_))), Or.elim hk_ (fun hs_ => hs_.2.1) (fun hn_ => (Kd.fresh' (Kd.N_lt (pN_ HO_3.out)) k_ hn_)), Or.elim hk_ (fun hs_ => hs_.2.2) (fun hn_ => (fb_ (g := gb131) (o := .cells #[.int .i64 ((rd_T87 l0 x11_1).f0), .slice A130_1 ((rd_T87 l0 x11_1).f1).length c130_1] 87 (0, 0)) (pk_ BK131.out) k_ hn_))⟩)) (bz_ (pb1_ HB.out GE131.out)))
         have n4_ := am_ (bw_ (g := gb131) (o := .cells #[.int .i64 ((rd_T87 l0 x11_1).f0), .slice A130_1 ((rd_T87 l0 x11_1).f1).length c130_1] 87 (0, 0)) (pk_ BK131.out) hb)
         have n5_ := am_ (sp_ (pb1_ HB.out GE131.out) hb)
         clear HO_3
         clear HO_9
         clear HL130_1
         clear BK131
         clear HB
         have HO_3 := n0_
         have HO_9 := n1_
         have HL130_1 := n2_
         have HO134 := n3_
         have BK131 := n4_
         have HB := n5_
         clear n0_ n1_ n2_ n3_ n4_ n5_
         (try clear hb)
         (try clear hb2)
         (try clear hk)
         (try clear hi)
         (try clear ho0)
         obtain ⟨Ao17, co17, eo17⟩ := Kd.V_slice HO134.out
         (first | subst eo17 | (injection eo17 with f1_ f2_ f3_; have f4_ := f1_.symm; have f5_ := f3_.symm; clear f1_ f2_ f3_; subst f4_; subst f5_))
         have p11 : 0 ≤ (x11_1 : Int) := ot_ (by first | (with_reducible assumption) | assumption)
         have q11 : (x11_1 : Int) < ((x3_1.length : Int) : Int) := ot_ (by first | (with_reducible assumption) | assumption)
         obtain ⟨go11, co11, eo11, gb11, gl11, cl11, HG11⟩ := Kd.N_form HO_3.out (by omega)
         (first | cases eo11 | (injection eo11 with ea_ en_ ec_; (first | subst ea_ | (injection ea_ with ea_; subst ea_)); subst ec_; clear en_))
         have GB11 := am_ gb11
         have GG11 := am_ HG11
         clear gb11 gl11 HG11
         obtain ⟨ce11, hcl11, hM11, hcc11, hfr11⟩ := Kd.N_elem HO_3.out z87 (x11_1 : Int) p11 q11
         obtain ⟨ua11_1, uc11_1, rfl, ul11_1, ge11_1⟩ := k87_openF hM11
         have hx11_0 : World.cell? _ ⟨go11, (x11_1 : Int).toNat * 2, none⟩ = some (.int .i64 ((rd_T87 x3_1 x11_1).f0)) := hcc11 0 _ rfl
         have hx11_1 : World.cell? _ ⟨go11, (x11_1 : Int).toNat * 2 + 1, none⟩ = some (.slice ua11_1 ((rd_T87 x3_1 x11_1).f1).length uc11_1) := hcc11 1 _ rfl
         have hf11_0 : World.frozen? _ ⟨go11, (x11_1 : Int).toNat * 2, none⟩ = false := hfr11 0
         have hf11_1 : World.frozen? _ ⟨go11, (x11_1 : Int).toNat * 2 + 1, none⟩ = false := hfr11 1
         clear hcl11 hcc11 hfr11 hM11
         replace p11 := eq_true p11
         replace q11 := eq_true q11
         have HX18 := am_ (show Kd.N k87 87 _ w.heap.size (fun k_ => (P0_ k_ ∨ w.heap.size ≤ k_) ∧ k_ ≠ gb131) (.slice (some ⟨go11, 0, none⟩) x3_1.length co11) x3_1 from (nm_ (HO_3.out) (fun k_ hk => ⟨hk.1, hk.2⟩)))
         obtain ⟨ce18, hcl18, hM18, hcc18, hfr18⟩ := Kd.N_elem HX18.out z87 (x11_1 : Int) (ot_ (by first | (with_reducible assumption) | assumption)) (by have h_ : (x11_1 : Int) < ((x3_1.length : Int) : Int) := ot_ (by first | (with_reducible assumption) | assumption); first | exact h_ | (have e_ := (Kd.N_reads' HO_3.out).1; omega) | simpa using h_)
         obtain ⟨ua18_1, uc18_1, rfl, ul18_1, ge18_1⟩ := k87_openF hM18
         have HP18 := (Kd.N_seg HX18.out (x11_1 : Int) (ot_ (by first | (with_reducible assumption) | assumption)) (by have h_ : (x11_1 : Int) < ((x3_1.length : Int) : Int) := ot_ (by first | (with_reducible assumption) | assumption); first | exact h_ | (have e_ := (Kd.N_reads' HO_3.out).1; omega) | simpa using h_) (seg := [.int .i64 ((rd_T87 l0 x11_1).f0), .slice Ao17 t132.length co17]) (j := 0) hcl18 hcc18 (show 2 ≤ 2 from by decide) (x' := (⟨(rd_T87 l0 x11_1).f0, t132⟩ : S87)) (k87_mkF _ _ (⟨(rd_T87 l0 x11_1).f0, t132⟩ : S87) (Kd.V_reads' (vm_ (ok' := (fun k_ => ((fun k_ => (P0_ k_ ∨ w.heap.size ≤ k_) ∧ k_ ≠ gb131)) k_ ∧ k_ ≠ go11)) (HO134.out) (fun k_ hk => ⟨⟨hk.1, hk.2.2⟩, fun e_ => (hk.2.1) (by rw [e_]; rfl)⟩))).2.1 (Kd.V_F (vm_ (ok' := (fun k_ => ((fun k_ => (P0_ k_ ∨ w.heap.size ≤ k_) ∧ k_ ≠ gb131)) k_ ∧ k_ ≠ go11)) (HO134.out) (fun k_ hk => ⟨⟨hk.1, hk.2.2⟩, fun e_ => (hk.2.1) (by rw [e_]; rfl)⟩)))) (fun _ hk => hk)).1
         rw [← Ny135.out] at HP18
         have HQ18 := am_ HP18
         clear hcl18 hcc18 hfr18 hM18 HP18
         refine hK.out _ _ ⟨(bc_ BK131.out 0).trans rfl, (bc_ BK131.out 1).trans rfl⟩ (fun hHeld => ?_)
         clear hK K
         refine norm_ (a' := ?_) ?_ ?_
         rotate_left
         ·
          show Act.put _ (some 22) _ = _
          simp only [Act.put, lt1_, lt2_, lt3_, i64_w, i32_w]
          rfl
         refine pure_ (i := 7) (N := some 23) (v := ?_) (a' := ?_) #[true, true, true, true, true, true, true, true, false, false] rfl rfl (any_of HT_.out (by kernel_rfl)) (fun _ _ _ h => h) (Or.inl ⟨by rfl, ?_⟩) ?_ ?_
         rotate_left
         ·
          intro w'
          go_simp
          with_reducible rfl
         rotate_left
         ·
          simp only [Act.put, lt1_, lt2_, lt3_, i64_w, i32_w]
          rfl
         refine pure_ (i := 8) (N := some 24) (v := ?_) (a' := ?_) #[true, true, true, true, true, true, true, true, true, false] rfl rfl (any_of HT_.out (by kernel_rfl)) (fun _ _ _ h => h) (Or.inl ⟨by rfl, ?_⟩) ?_ ?_
         rotate_left
         ·
          intro w'
          go_simp
          with_reducible rfl
         rotate_left
         ·
          simp only [Act.put, lt1_, lt2_, lt3_, i64_w, i32_w]
          rfl
         refine last_ (i := 9) (N := none) #[true, true, true, true, true, true, true, true, true, true] rfl rfl (one_of HT_.out (by kernel_rfl)) (by decide) (fun K hK => ?_)
         refine skip_ (w1 := ?_) (by rfl) rfl ?_ ?_
         rotate_left
         ·
          go_simp
          rfl
         refine hK.out _ _ ?_
         clear hK K
         refine done_ (done_of HT_.out (by kernel_rfl)) ?_
         try go_wp2
         go_roundg k1
         case measure => have := HK1.out; omega
         case rel => exact ⟨(y135), (wrap64 (x11_1 + 1)), (by first | rfl | (simp; done) | (simp [*]; done)), H', ⟨by have := HK1.out; omega⟩, ⟨by (with_reducible repeat (first | apply na_ | apply nn_ | apply nd_)); exact nm_ HQ18.out (fun _ hk => hk.1)⟩, ⟨by (with_reducible repeat (first | apply va_ | apply vn_ | apply vd_)); exact vm_ (Kd.V_far (p := ⟨go11, (x11_1 : Int).toNat * 2 + 1, none⟩) (Kd.V_far (p := ⟨go11, (x11_1 : Int).toNat * 2, none⟩) (vm_ HO_9.out (fun k_ hk => (⟨hk, fun e_ => hk.2.1 (by rw [e_]; rfl)⟩ : _ ∧ k_ ≠ go11))) (fun _ hk => hk.2) (.int .i64 ((rd_T87 l0 x11_1).f0))) (fun _ hk => hk.2) (.slice Ao17 t132.length co17)) (fun _ hk => ⟨hk.1.1, hk.1.2.1⟩)⟩, ⟨by repeat (first | (with_reducible first | exact HB.out | apply bl_ | apply pb_ | apply b1_ | refine bs_ ?_ GB11.out | refine bs_ ?_ GB11.out | refine bs_ ?_ GE131.out) | exact HB.out)⟩⟩
        ·
         rw [if_neg c10] at H
         exact absurd H (by simp)
       ·
        rw [if_neg c8] at H
        exact absurd H (by simp)
      ·
       rw [if_neg c7] at H
       exact absurd H (by simp)
     ·
      rw [if_neg c6] at H
      have c6b0 : decide (x11_1 < (l0.length : Int)) = false := df_ c6
      clear c6
      obtain rfl := si_ H
      go_wp2
      go_ret
      exact ⟨_, by first | rfl | (simp [errW_none, errW_some] <;> rfl) | (simp [*, errW_none, errW_some] <;> rfl), by (with_reducible repeat (first | apply na_ | apply nn_ | apply nd_)); exact HO_3.out, pb0_ HB.out⟩
  ·
   rw [if_neg c3] at H
   exact absurd H (by simp)
 ·
  rw [if_neg c2] at H
  exact absurd H (by simp)
end Go.Proofs.Ytbigcpjlahkggaa.Q
