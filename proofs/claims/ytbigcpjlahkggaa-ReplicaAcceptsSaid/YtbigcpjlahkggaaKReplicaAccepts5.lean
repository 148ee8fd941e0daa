import Derived.Test.YtbigcpjlahkggaaKReplicaAccepts4
import Derived.Lib.SlBytesConst
set_option linter.unusedVariables false
set_option linter.unusedSimpArgs false
section
namespace Go.Proofs.YtbigcpjlahkggaaW.PrintMore
open Go.RowKit Go.Proofs.YtbigcpjlahkggaaW.PrintWords Go.Proofs.YtbigcpjlahkggaaW.PrintLast
theorem cell_marked {w w1 : World} {g : Nat} {cur : Array Value} {e : TypeId} {f1 f2 : Nat × Nat} (h1 : w.heap[g]? = some (.cells cur e f1)) (h2 : w1.heap[g]? = some (.cells cur e f2)) (o : Nat) : w1.cell? ⟨g, o, none⟩ = w.cell? ⟨g, o, none⟩ := by
  simp [World.cell?, h1, h2]
theorem run_convert_marked {P : Program} (w : World) (t e : TypeId) (g n c : Nat) (cur : Array Value) (ht : P.underlying t = some (.slice e)) (he : P.underlying e = some (.int .u8)) (hb : w.heap[g]? = some (.cells cur e (0, 0))) :
    ∃ w1, (convert t t (.slice (some ⟨g, 0, none⟩) n c)).run P w = .ok (.slice (some ⟨g, 0, none⟩) n c) w1 ∧ w.grownBy w1 (some g) ∧ ∃ f, w1.heap[g]? = some (.cells cur e f) := by
  have hsh : w.shape? g = some (e, cur.size) := by
    unfold World.shape?
    rw [hb]
  have hlt : g < w.heap.size := (Array.getElem?_eq_some_iff.1 hb).1
  refine ⟨w.freeze ⟨g, cur.size, none⟩ 1, ?_, ?_, ?_⟩
  · simp [convert, run_underlying ht, run_underlying he, markStringish, hsh]
  · unfold World.freeze
    rw [if_neg (by decide)]
    refine ⟨rfl, rfl, rfl, by simp, fun k hk hne => ?_⟩
    have : g ≠ k := fun e => hne (by rw [e])
    simp [Array.getElem?_modify, this]
  · unfold World.freeze
    rw [if_neg (by decide)]
    simp only [Array.getElem?_modify, if_true, hb, Option.map_some]
    exact ⟨_, rfl⟩
section
variable {P : Program} {ops : Array Oper} {Q : Exit → Act → World → Prop}
theorem convLit_ {rest : List Oper} {oi : Oper} {a : Act} {w : World} (N : Option Tmp) (hd : oi.dst = N) (hg : oi.guard = none) {t e : TypeId} {s : Operand} (hop : oi.op = .convert t t s) (ht : P.underlying t = some (.slice e)) (he : P.underlying e = some (.int .u8))
    {v : Value} (hs : a.eval s = v) {xs : List Int} {base : Nat} {ok : Nat → Prop} (hR : (Kd.int .u8).R e w base ok v xs) (hne : v ≠ .slice none 0 0)
    (h : ∀ w1, w.grownBy w1 v.ownBlock → Kd.V (Kd.int .u8) e w1 base (fun k => some k = v.ownBlock) v xs → wpList P ops Q rest (a.put N v) w1) : wpList P ops Q (oi :: rest) a w := by
  refine wpList_plain hg fun K hK => ?_
  have ho := Kd.own_of_R hR
  obtain ⟨A, c, hv, hl, hC⟩ := Kd.R_reads hR
  rcases ho.2 with ⟨rfl, _⟩ | ⟨g, cap, cur, rfl, hgb, hh, hn, hcap, hcs, hcur⟩
  · exact absurd rfl hne
  · injection hv with hA _ hc
    subst hA
    obtain ⟨w1, hrun0, hgrow, f, hf⟩ := run_convert_marked w t e g xs.length cap cur ht he hh
    have hrun : (execOp a.eval oi).run P w = .ok (.value (.slice (some ⟨g, 0, none⟩) xs.length cap)) w1 := by
      unfold execOp
      simp [hop, hs, hrun0]
    unfold Oper.wp
    rw [hrun]
    have hk : wpList P ops Q rest (a.put N (.slice (some ⟨g, 0, none⟩) xs.length cap)) w1 := by
      refine h w1 hgrow ⟨_, _, rfl, hn, ?_⟩
      intro W' hW
      have hlt : g < w1.heap.size := (Array.getElem?_eq_some_iff.1 hf).1
      have hW' : W'.heap[g]? = some (.cells cur e f) := (hW g rfl hlt).trans hf
      refine ⟨hC.1, hC.2.1, fun hp => ?_⟩
      obtain ⟨ad, e1, hcells⟩ := hC.2.2 hp
      cases e1
      refine ⟨_, rfl, fun j p hj => ?_⟩
      obtain ⟨cs, h1, h2, h3⟩ := hcells j p hj
      refine ⟨cs, h1, h2, fun i u hu => ?_⟩
      have := h3 i u hu
      rw [show (⟨g, 0, none⟩ : Addr).add (j * (Kd.int .u8).sz + i) = ⟨g, j * (Kd.int .u8).sz + i, none⟩ from by unfold Addr.add; split <;> simp_all] at this ⊢
      rw [cell_marked hh hW']
      exact this
    subst hd
    exact hK _ _ hk
end
end Go.Proofs.YtbigcpjlahkggaaW.PrintMore
end
section
namespace Go.Proofs.Ytbigcpjlahkggaa.Q
open Go.RowKit Go.Proofs.YtbigcpjlahkggaaW.PrintWords Go.Proofs.YtbigcpjlahkggaaW.PrintLast Go.Proofs.YtbigcpjlahkggaaW.PrintMore
attribute [local go_sem] max2_int min2_int max_two min_two max_three min_three max_four min_four
attribute [local go_sem ↓] isSome_setCell
attribute [local go_sem] string_gtr
set_option linter.unusedVariables false
set_option linter.unusedSimpArgs false
def replica_better.f (k : Nat) (a0_0 : Int) (a0_1 : Int) (l0_2 : List (S87)) (a1_0 : Int) (a1_1 : Int) (l1_2 : List (S87)) : Option (Int) := (replica_Node_end.f a0_0 a0_1 l0_2 (l0_2.length : Int)).bind fun t119 => ((replica_Node_end.f a1_0 a1_1 l1_2 (l1_2.length : Int)).bind fun t120 => ((cmp_Compare_int.f t119 t120).bind fun t121 => ((cmp_Compare_int.f (l0_2.length : Int) (l1_2.length : Int)).bind fun t122 => ((cmp_Or_int.f k (([t121, t122] : List Int))).bind fun t126 => (some t126)))))
def replica_better.T1 : Bool × List (List Nat × List Nat) := (true, [([], []), ([], []), ([1], [1]), ([2], [2]), ([0, 3], [0, 3]), ([], []), ([], []), ([6], [6]), ([7], [7]), ([5, 8, 4], [5, 8]), ([4, 9, 9], [4, 9]), ([], []), ([11], [11]), ([12], [12]), ([], []), ([14], [14]), ([15], [15]), ([13, 16, 10], [13, 16]), ([10, 17], [10, 17]), ([18, 17], [18]), ([19, 19, 0, 1, 2, 3, 4, 5, 6, 7, 8, 9, 10, 11, 12, 13, 14, 15, 16, 17, 18, 19], [19])])
def replica_better.B1 : List Nat := [0, 0, 2, 6, 15, 0, 0, 64, 192, 511, 1023, 0, 2048, 6144, 0, 16384, 49152, 131071, 262143, 524287, 1048575]
theorem replica_better.tab1 : rtab .any (opsOf Try.f41 1) = replica_better.T1 := by kernel_rfl
theorem replica_better.bits1 : waitsOk replica_better.T1.2 replica_better.B1 = true := by kernel_rfl
set_option maxHeartbeats 8000000 in
set_option maxRecDepth 100000 in
theorem replica_better.calls (k : Nat) (a0_0 : Int) (a0_1 : Int) (A0_2 : Option Addr) (c0_2 : Nat) (l0_2 : List (S87)) (a1_0 : Int) (a1_1 : Int) (A1_2 : Option Addr) (c1_2 : Nat) (l1_2 : List (S87)) (r : Int) (w : World) (hr0_2 : Kd.C k87 w A0_2 l0_2.length l0_2) (hc0_2 : l0_2.length ≤ c0_2) (hr1_2 : Kd.C k87 w A1_2 l1_2.length l1_2) (hc1_2 : l1_2.length ≤ c1_2) (h : replica_better.f k a0_0 a0_1 l0_2 a1_0 a1_1 l1_2 = some r) :
  Calls Try.prog 41 #[.agg #[.int .i64 a0_0, .int .i64 a0_1, .slice A0_2 l0_2.length c0_2], .agg #[.int .i64 a1_0, .int .i64 a1_1, .slice A1_2 l1_2.length c1_2]] w fun e w' => e = .returned (.int .i64 r) ∧ Below w.heap.size w w' := by
 have hu35 := Try.underlying35; have HR0_2 := am_ hr0_2; have HC0_2 := am_ hc0_2; clear hr0_2 hc0_2; have HR1_2 := am_ hr1_2; have HC1_2 := am_ hc1_2; clear hr1_2 hc1_2; have HB := am_ (Below.refl w.heap.size w); have H : ((replica_Node_end.f a0_0 a0_1 l0_2 (l0_2.length : Int)).bind fun t119 => ((replica_Node_end.f a1_0 a1_1 l1_2 (l1_2.length : Int)).bind fun t120 => ((cmp_Compare_int.f t119 t120).bind fun t121 => ((cmp_Compare_int.f (l0_2.length : Int) (l1_2.length : Int)).bind fun t122 => ((cmp_Or_int.f k (([t121, t122] : List Int))).bind fun t126 => (some t126)))))) = some r := h; clear h; replace H := Option.bind_eq_some_iff.mp H; obtain ⟨t119, A30, H⟩ := H; replace H : ((replica_Node_end.f a1_0 a1_1 l1_2 (l1_2.length : Int)).bind fun t120 => ((cmp_Compare_int.f t119 t120).bind fun t121 => ((cmp_Compare_int.f (l0_2.length : Int) (l1_2.length : Int)).bind fun t122 => ((cmp_Or_int.f k (([t121, t122] : List Int))).bind fun t126 => (some t126))))) = some r := H; have A3 := am_ A30; clear A30; replace H := Option.bind_eq_some_iff.mp H; obtain ⟨t120, A40, H⟩ := H; replace H : ((cmp_Compare_int.f t119 t120).bind fun t121 => ((cmp_Compare_int.f (l0_2.length : Int) (l1_2.length : Int)).bind fun t122 => ((cmp_Or_int.f k (([t121, t122] : List Int))).bind fun t126 => (some t126)))) = some r := H; have A4 := am_ A40; clear A40; replace H := Option.bind_eq_some_iff.mp H; obtain ⟨t121, A50, H⟩ := H; replace H : ((cmp_Compare_int.f (l0_2.length : Int) (l1_2.length : Int)).bind fun t122 => ((cmp_Or_int.f k (([t121, t122] : List Int))).bind fun t126 => (some t126))) = some r := H; have A5 := am_ A50; clear A50; replace H := Option.bind_eq_some_iff.mp H; obtain ⟨t122, A60, H⟩ := H; replace H : ((cmp_Or_int.f k (([t121, t122] : List Int))).bind fun t126 => (some t126)) = some r := H; have A6 := am_ A60; clear A60; obtain ⟨y123, hy123⟩ : ∃ y_ : List Int, y_ = (([t121, t122] : List Int)) := ⟨_, rfl⟩; replace H : ((cmp_Or_int.f k y123).bind fun t126 => (some t126)) = some r := by first | (rw [hy123]; with_reducible exact H) | (have H2_ := (Option.bind_some _ _).symm.trans H; rw [hy123]; with_reducible exact H2_) | (have H2_ := (Option.bind_some _ _).symm.trans H; with_reducible exact H2_) | with_reducible exact H | (rw [hy123]; exact H) | exact H
 have Ny123 := am_ hy123; clear hy123; replace H := Option.bind_eq_some_iff.mp H; obtain ⟨t126, A70, H⟩ := H; replace H : (some t126) = some r := H; have A7 := am_ A70; clear A70; obtain rfl := si_ H; go_enter Try.func41, Try.ntmps41
 try go_wp2_with (first | ((with_reducible refine gate_dst (N := 2) rfl ?_); refine box_event ?hg (N := 2) ?hd (cs := #[.int .i64 a0_0, .int .i64 a0_1, .slice A0_2 l0_2.length c0_2]) (t := 35) ?hr ?_; (case hd => rfl); (case hg => rfl); (case hr => first | (go_simp; done) | (go_simp; rfl)); intro gb117 hg w8 hbox hb; have n0_ := am_ (sp_ (pb0_ HB.out) hb); have n1_ := am_ (hbox); have n2_ := am_ ((by rw [hg]; exact (bz_ (pb0_ HB.out)) : w.heap.size ≤ gb117)); have n3_ := am_ ((by rw [hg]; exact (bz_ (pb0_ HB.out)) : w.heap.size ≤ gb117)); clear HB; have HB := n0_; have BK117 := n1_; have GW117 := n2_; have GE117 := n3_; clear n0_ n1_ n2_ n3_; clear hb hbox hg) | ((with_reducible refine gate_dst (N := 3) rfl ?_); refine box_event ?hg (N := 3) ?hd (cs := #[.int .i64 a1_0, .int .i64 a1_1, .slice A1_2 l1_2.length c1_2]) (t := 35) ?hr ?_; (case hd => rfl); (case hg => rfl); (case hr => first | (go_simp; done) | (go_simp; rfl)); intro gb118 hg w9 hbox hb; have n0_ := am_ (bw_ (g := gb117) (o := .cells #[.int .i64 a0_0, .int .i64 a0_1, .slice A0_2 l0_2.length c0_2] 35 (0, 0)) (pk_ BK117.out) hb); have n1_ := am_ (sp_ (pb1_ HB.out GE117.out) hb); have n2_ := am_ (hbox); have n3_ := am_ ((by rw [hg]; exact (bz_ (pb1_ HB.out GE117.out)) : w.heap.size ≤ gb118)); have n4_ := am_ ((by rw [hg]; exact (bz_ (pb1_ HB.out GE117.out)) : w.heap.size ≤ gb118)); have n5_ := am_ ((by rw [hg]; exact Nat.ne_of_lt (blk_lt (g := gb117) (o := .cells #[.int .i64 a0_0, .int .i64 a0_1, .slice A0_2 l0_2.length c0_2] 35 (0, 0)) (pk_ BK117.out)) : gb117 ≠ gb118)); have n6_ := am_ ((by rw [hg]; exact Nat.ne_of_gt (blk_lt (g := gb117) (o := .cells #[.int .i64 a0_0, .int .i64 a0_1, .slice A0_2 l0_2.length c0_2] 35 (0, 0)) (pk_ BK117.out)) : gb118 ≠ gb117)); clear BK117; clear HB; have BK117 := n0_; have HB := n1_; have BK118 := n2_; have GW118 := n3_; have GE118 := n4_; have NB117_118 := n5_; have NB118_117 := n6_; clear n0_ n1_ n2_ n3_ n4_ n5_ n6_; clear hb hbox hg))
 have n0_ := am_ (bd_ BK117.out); have n1_ := am_ (bd_ BK118.out); have n2_ := am_ (b1_ HB.out); clear BK117; clear BK118; clear HB; have BK117 := n0_; have BK118 := n1_; have HB := n2_; clear n0_ n1_ n2_; refine start_ (n := 21) (S := fun w' => w'.cell? ⟨gb117, 0, none⟩ = some (.int .i64 a0_0) ∧ w'.cell? ⟨gb117, 1, none⟩ = some (.int .i64 a0_1) ∧ w'.cell? ⟨gb117, 2, none⟩ = some (.slice A0_2 l0_2.length c0_2) ∧ w'.cell? ⟨gb118, 0, none⟩ = some (.int .i64 a1_0) ∧ w'.cell? ⟨gb118, 1, none⟩ = some (.int .i64 a1_1) ∧ w'.cell? ⟨gb118, 2, none⟩ = some (.slice A1_2 l1_2.length c1_2)) (ds := []) #[false, false, false, false, false, false, false, false, false, false, false, false, false, false, false, false, false, false, false, false, false] (by kernel_rfl) rfl rfl ⟨(bc_ BK117.out 0).trans rfl, (bc_ BK117.out 1).trans rfl, (bc_ BK117.out 2).trans rfl, (bc_ BK118.out 0).trans rfl, (bc_ BK118.out 1).trans rfl, (bc_ BK118.out 2).trans rfl⟩ (fun hHeld => ?_); refine with_tabW replica_better.tab1 replica_better.bits1 (fun HT_ HW_ => ?_); generalize w9.drew = w10 at BK117 BK118 HB hHeld ⊢; refine pure_ (i := 1) (N := some 6) (v := ?_) (a' := ?_) #[false, true, false, false, false, false, false, false, false, false, false, false, false, false, false, false, false, false, false, false, false] rfl rfl (any_of HT_.out (by kernel_rfl)) (fun _ _ _ h => h) (Or.inl ⟨by rfl, ?_⟩) ?_ ?_; rotate_left; (intro w'; go_simp; with_reducible rfl); rotate_left; (simp only [Act.put, lt1_, lt2_, lt3_, i64_w, i32_w]; rfl); refine pure_ (i := 6) (N := some 11) (v := ?_) (a' := ?_) #[false, true, false, false, false, false, true, false, false, false, false, false, false, false, false, false, false, false, false, false, false] rfl rfl (any_of HT_.out (by kernel_rfl)) (fun _ _ _ h => h) (Or.inl ⟨by rfl, ?_⟩) ?_ ?_; rotate_left; (intro w'; go_simp; with_reducible rfl); rotate_left; (simp only [Act.put, lt1_, lt2_, lt3_, i64_w, i32_w]; rfl); refine pure_ (i := 11) (N := some 16) (v := ?_) (a' := ?_) #[false, true, false, false, false, false, true, false, false, false, false, true, false, false, false, false, false, false, false, false, false] rfl rfl (any_of HT_.out (by kernel_rfl)) (fun _ _ _ h => h) (Or.inl ⟨by rfl, ?_⟩) ?_ ?_; rotate_left; (intro w'; go_simp; with_reducible rfl); rotate_left; (simp only [Act.put, lt1_, lt2_, lt3_, i64_w, i32_w]; rfl); refine pure_ (i := 14) (N := some 19) (v := ?_) (a' := ?_) #[false, true, false, false, false, false, true, false, false, false, false, true, false, false, true, false, false, false, false, false, false] rfl rfl (any_of HT_.out (by kernel_rfl)) (fun _ _ _ h => h) (Or.inl ⟨by rfl, ?_⟩) ?_ ?_; rotate_left; (intro w'; go_simp; with_reducible rfl); rotate_left; (simp only [Act.put, lt1_, lt2_, lt3_, i64_w, i32_w]; rfl)
 refine take_ (i := 0) (N := some 5) (v := ?_) (a' := ?_) #[true, true, false, false, false, false, true, false, false, false, false, true, false, false, true, false, false, false, false, false, false] rfl rfl (take_ofW HT_.out HW_.out (by kernel_rfl)) (fun _ _ _ h => h) (Or.inl ⟨by rfl, ?_⟩) hHeld ?_ ?_; rotate_left
 ·
  rintro w' ⟨s0, s1, s2, s3, s4, s5⟩; go_simp; with_reducible rfl
 rotate_left
 ·
  simp only [Act.put, lt1_, lt2_, lt3_, i64_w, i32_w]; rfl
 refine take_ (i := 2) (N := some 7) (v := ?_) (a' := ?_) #[true, true, true, false, false, false, true, false, false, false, false, true, false, false, true, false, false, false, false, false, false] rfl rfl (take_ofW HT_.out HW_.out (by kernel_rfl)) (fun _ _ _ h => h) (Or.inl ⟨by rfl, ?_⟩) hHeld ?_ ?_; rotate_left
 ·
  rintro w' ⟨s0, s1, s2, s3, s4, s5⟩; go_simp; with_reducible rfl
 rotate_left
 ·
  simp only [Act.put, lt1_, lt2_, lt3_, i64_w, i32_w]; rfl
 refine pure_ (i := 3) (N := some 8) (v := ?_) (a' := ?_) #[true, true, true, true, false, false, true, false, false, false, false, true, false, false, true, false, false, false, false, false, false] rfl rfl (any_of HT_.out (by kernel_rfl)) (fun _ _ _ h => h) (Or.inl ⟨by rfl, ?_⟩) ?_ ?_; rotate_left; (intro w'; go_simp; with_reducible rfl); rotate_left; (simp only [Act.put, lt1_, lt2_, lt3_, i64_w, i32_w]; rfl); refine take_ (i := 5) (N := some 10) (v := ?_) (a' := ?_) #[true, true, true, true, false, true, true, false, false, false, false, true, false, false, true, false, false, false, false, false, false] rfl rfl (take_ofW HT_.out HW_.out (by kernel_rfl)) (fun _ _ _ h => h) (Or.inl ⟨by rfl, ?_⟩) hHeld ?_ ?_; rotate_left
 ·
  rintro w' ⟨s0, s1, s2, s3, s4, s5⟩; go_simp; with_reducible rfl
 rotate_left
 ·
  simp only [Act.put, lt1_, lt2_, lt3_, i64_w, i32_w]; rfl
 refine take_ (i := 7) (N := some 12) (v := ?_) (a' := ?_) #[true, true, true, true, false, true, true, true, false, false, false, true, false, false, true, false, false, false, false, false, false] rfl rfl (take_ofW HT_.out HW_.out (by kernel_rfl)) (fun _ _ _ h => h) (Or.inl ⟨by rfl, ?_⟩) hHeld ?_ ?_; rotate_left
 ·
  rintro w' ⟨s0, s1, s2, s3, s4, s5⟩; go_simp; with_reducible rfl
 rotate_left
 ·
  simp only [Act.put, lt1_, lt2_, lt3_, i64_w, i32_w]; rfl
 refine pure_ (i := 8) (N := some 13) (v := ?_) (a' := ?_) #[true, true, true, true, false, true, true, true, true, false, false, true, false, false, true, false, false, false, false, false, false] rfl rfl (any_of HT_.out (by kernel_rfl)) (fun _ _ _ h => h) (Or.inl ⟨by rfl, ?_⟩) ?_ ?_; rotate_left; (intro w'; go_simp; with_reducible rfl); rotate_left; (simp only [Act.put, lt1_, lt2_, lt3_, i64_w, i32_w]; rfl); refine take_ (i := 12) (N := some 17) (v := ?_) (a' := ?_) #[true, true, true, true, false, true, true, true, true, false, false, true, true, false, true, false, false, false, false, false, false] rfl rfl (take_ofW HT_.out HW_.out (by kernel_rfl)) (fun _ _ _ h => h) (Or.inl ⟨by rfl, ?_⟩) hHeld ?_ ?_; rotate_left
 ·
  rintro w' ⟨s0, s1, s2, s3, s4, s5⟩; go_simp; with_reducible rfl
 rotate_left
 ·
  simp only [Act.put, lt1_, lt2_, lt3_, i64_w, i32_w]; rfl
 refine pure_ (i := 13) (N := some 18) (v := ?_) (a' := ?_) #[true, true, true, true, false, true, true, true, true, false, false, true, true, true, true, false, false, false, false, false, false] rfl rfl (any_of HT_.out (by kernel_rfl)) (fun _ _ _ h => h) (Or.inl ⟨by rfl, ?_⟩) ?_ ?_; rotate_left; (intro w'; go_simp; with_reducible rfl); rotate_left; (simp only [Act.put, lt1_, lt2_, lt3_, i64_w, i32_w]; rfl); refine take_ (i := 15) (N := some 20) (v := ?_) (a' := ?_) #[true, true, true, true, false, true, true, true, true, false, false, true, true, true, true, true, false, false, false, false, false] rfl rfl (take_ofW HT_.out HW_.out (by kernel_rfl)) (fun _ _ _ h => h) (Or.inl ⟨by rfl, ?_⟩) hHeld ?_ ?_; rotate_left
 ·
  rintro w' ⟨s0, s1, s2, s3, s4, s5⟩; go_simp; with_reducible rfl
 rotate_left
 ·
  simp only [Act.put, lt1_, lt2_, lt3_, i64_w, i32_w]; rfl
 refine pure_ (i := 16) (N := some 21) (v := ?_) (a' := ?_) #[true, true, true, true, false, true, true, true, true, false, false, true, true, true, true, true, true, false, false, false, false] rfl rfl (any_of HT_.out (by kernel_rfl)) (fun _ _ _ h => h) (Or.inl ⟨by rfl, ?_⟩) ?_ ?_; rotate_left; (intro w'; go_simp; with_reducible rfl); rotate_left; (simp only [Act.put, lt1_, lt2_, lt3_, i64_w, i32_w]; rfl); refine one_ (i := 4) (N := some 9) #[true, true, true, true, true, true, true, true, true, false, false, true, true, true, true, true, true, false, false, false, false] rfl rfl (one_of HT_.out (by kernel_rfl)) (by decide) (fun K hK => ?_); refine goes_ Try.func28 (by kernel_rfl) rfl #[.agg #[.int .i64 a0_0, .int .i64 a0_1, .slice A0_2 l0_2.length c0_2], .int .i64 (l0_2.length : Int)] (by rfl) rfl rfl au_ ?_
 with_reducible refine (replica_Node_end.calls a0_0 a0_1 _ _ l0_2 (l0_2.length : Int) t119 _ ?side1 ?side2 A3.out).mono ?_
 (case side1 => repeat (first | exact (Kd.C_below HR0_2.out HB.out) | (with_reducible refine Kd.C_alloc ?_ _) | (with_reducible refine Kd.C_drewN ?_ _) | (with_reducible refine Kd.C_drew ?_)))
 (case side2 => exact HC0_2.out)
 rintro e w11 ⟨rfl, hb⟩; refine ⟨_, rfl, ?_⟩; have n0_ := am_ (bw_ (g := gb117) (o := .cells #[.int .i64 a0_0, .int .i64 a0_1, .slice A0_2 l0_2.length c0_2] 35 (0, 0)) (pk_ BK117.out) hb); have n1_ := am_ (bw_ (g := gb118) (o := .cells #[.int .i64 a1_0, .int .i64 a1_1, .slice A1_2 l1_2.length c1_2] 35 (0, 0)) (pk_ BK118.out) hb); have n2_ := am_ (sp_ (pb2_ HB.out GE117.out GE118.out) hb); clear BK117; clear BK118; clear HB; have BK117 := n0_; have BK118 := n1_; have HB := n2_; clear n0_ n1_ n2_
 (try clear hb)
 (try clear hb2)
 (try clear hk)
 (try clear hi)
 refine hK.out _ _ ⟨(bc_ BK117.out 0).trans rfl, (bc_ BK117.out 1).trans rfl, (bc_ BK117.out 2).trans rfl, (bc_ BK118.out 0).trans rfl, (bc_ BK118.out 1).trans rfl, (bc_ BK118.out 2).trans rfl⟩ (fun hHeld => ?_); clear hK K; refine norm_ (a' := ?_) ?_ ?_; rotate_left
 ·
  show Act.put _ (some 9) _ = _
  simp only [Act.put, lt1_, lt2_, lt3_, i64_w, i32_w]; rfl
 refine one_ (i := 9) (N := some 14) #[true, true, true, true, true, true, true, true, true, true, false, true, true, true, true, true, true, false, false, false, false] rfl rfl (one_of HT_.out (by kernel_rfl)) (by decide) (fun K hK => ?_); refine goes_ Try.func28 (by kernel_rfl) rfl #[.agg #[.int .i64 a1_0, .int .i64 a1_1, .slice A1_2 l1_2.length c1_2], .int .i64 (l1_2.length : Int)] (by rfl) rfl rfl au_ ?_
 with_reducible refine (replica_Node_end.calls a1_0 a1_1 _ _ l1_2 (l1_2.length : Int) t120 _ ?side1 ?side2 A4.out).mono ?_
 (case side1 => repeat (first | exact (Kd.C_below HR1_2.out HB.out) | (with_reducible refine Kd.C_alloc ?_ _) | (with_reducible refine Kd.C_drewN ?_ _) | (with_reducible refine Kd.C_drew ?_)))
 (case side2 => exact HC1_2.out)
 rintro e w12 ⟨rfl, hb⟩; refine ⟨_, rfl, ?_⟩; have n0_ := am_ (bw_ (g := gb117) (o := .cells #[.int .i64 a0_0, .int .i64 a0_1, .slice A0_2 l0_2.length c0_2] 35 (0, 0)) (pk_ BK117.out) hb); have n1_ := am_ (bw_ (g := gb118) (o := .cells #[.int .i64 a1_0, .int .i64 a1_1, .slice A1_2 l1_2.length c1_2] 35 (0, 0)) (pk_ BK118.out) hb); have n2_ := am_ (sp_ (pb2_ HB.out GE117.out GE118.out) hb); clear BK117; clear BK118; clear HB; have BK117 := n0_; have BK118 := n1_; have HB := n2_; clear n0_ n1_ n2_
 (try clear hb)
 (try clear hb2)
 (try clear hk)
 (try clear hi)
 refine hK.out _ _ ⟨(bc_ BK117.out 0).trans rfl, (bc_ BK117.out 1).trans rfl, (bc_ BK117.out 2).trans rfl, (bc_ BK118.out 0).trans rfl, (bc_ BK118.out 1).trans rfl, (bc_ BK118.out 2).trans rfl⟩ (fun hHeld => ?_); clear hK K; refine norm_ (a' := ?_) ?_ ?_; rotate_left
 ·
  show Act.put _ (some 14) _ = _
  simp only [Act.put, lt1_, lt2_, lt3_, i64_w, i32_w]; rfl
 refine one_ (i := 10) (N := some 15) #[true, true, true, true, true, true, true, true, true, true, true, true, true, true, true, true, true, false, false, false, false] rfl rfl (one_of HT_.out (by kernel_rfl)) (by decide) (fun K hK => ?_); refine goes_ Try.func53 (by kernel_rfl) rfl #[.int .i64 t119, .int .i64 t120] (by rfl) rfl rfl au_ ?_
 with_reducible refine (cmp_Compare_int.calls t119 t120 t121 _ A5.out).mono ?_
 rintro e w' ⟨rfl, ⟨nd, rfl⟩⟩; refine ⟨_, rfl, ?_⟩; refine hK.out _ _ ⟨(bc_ BK117.out 0).trans rfl, (bc_ BK117.out 1).trans rfl, (bc_ BK117.out 2).trans rfl, (bc_ BK118.out 0).trans rfl, (bc_ BK118.out 1).trans rfl, (bc_ BK118.out 2).trans rfl⟩ (fun hHeld => ?_); clear hK K; refine norm_ (a' := ?_) ?_ ?_; rotate_left
 ·
  show Act.put _ (some 15) _ = _
  simp only [Act.put, lt1_, lt2_, lt3_, i64_w, i32_w]; rfl
 refine one_ (i := 17) (N := some 22) #[true, true, true, true, true, true, true, true, true, true, true, true, true, true, true, true, true, true, false, false, false] rfl rfl (one_of HT_.out (by kernel_rfl)) (by decide) (fun K hK => ?_); refine goes_ Try.func53 (by kernel_rfl) rfl #[.int .i64 (l0_2.length : Int), .int .i64 (l1_2.length : Int)] (by rfl) rfl rfl au_ ?_
 with_reducible refine (cmp_Compare_int.calls (l0_2.length : Int) (l1_2.length : Int) t122 _ A6.out).mono ?_
 rintro e w' ⟨rfl, ⟨nd, rfl⟩⟩; refine ⟨_, rfl, ?_⟩; refine hK.out _ _ ⟨(bc_ BK117.out 0).trans rfl, (bc_ BK117.out 1).trans rfl, (bc_ BK117.out 2).trans rfl, (bc_ BK118.out 0).trans rfl, (bc_ BK118.out 1).trans rfl, (bc_ BK118.out 2).trans rfl⟩ (fun hHeld => ?_); clear hK K; refine norm_ (a' := ?_) ?_ ?_; rotate_left
 ·
  show Act.put _ (some 22) _ = _
  simp only [Act.put, lt1_, lt2_, lt3_, i64_w, i32_w]; rfl
 refine one_ (i := 18) (N := some 23) #[true, true, true, true, true, true, true, true, true, true, true, true, true, true, true, true, true, true, true, false, false] rfl rfl (one_of HT_.out (by kernel_rfl)) (by decide) (fun K hK => ?_); refine Kd.R_lit_step (Kd.int .i64) _ 3 ?hg (N := 23) ?hd (xs := ([t121, t122] : List Int)) (inner := [.int .i64 t121, .int .i64 t122]) (ok := fun _ => True) (okp := fun _ => True) ?hr ?hp (fun _ hk => hk) trivial (Below.refl _ _) (Nat.le_refl _) (by simp) ?_; (case hd => rfl); (case hg => rfl); (case hr => first | (go_simp; done) | (go_simp; rfl)); (case hp => exact (Reps.one (show Kd.M (Kd.int .i64) _ _ _ t121 [.int .i64 t121] from rfl) (Reps.one (show Kd.M (Kd.int .i64) _ _ _ t122 [.int .i64 t122] from rfl) (Reps.none _ _)))); intro v124 w13 ho14 hb hg_ hnew_; clear hg_ hnew_
 (first | rw [← Ny123.out] at ho14 | (simp only [Int.reduceToNat] at ho14; rw [← Ny123.out] at ho14))
 have n0_ := am_ (Kd.R_lower ho14 (bz_ (pb2_ HB.out GE117.out GE118.out))); have n1_ := am_ (bw_ (g := gb117) (o := .cells #[.int .i64 a0_0, .int .i64 a0_1, .slice A0_2 l0_2.length c0_2] 35 (0, 0)) (pk_ BK117.out) hb); have n2_ := am_ (bw_ (g := gb118) (o := .cells #[.int .i64 a1_0, .int .i64 a1_1, .slice A1_2 l1_2.length c1_2] 35 (0, 0)) (pk_ BK118.out) hb); have n3_ := am_ (sp_ (pb2_ HB.out GE117.out GE118.out) hb); clear BK117; clear BK118; clear HB; have HO125 := n0_; have BK117 := n1_; have BK118 := n2_; have HB := n3_; clear n0_ n1_ n2_ n3_; clear hb ho14; obtain ⟨Ao15, co15, eo15⟩ := Kd.R_slice HO125.out
 (first | subst eo15 | (injection eo15 with f1_ f2_ f3_; have f4_ := f1_.symm; have f5_ := f3_.symm; clear f1_ f2_ f3_; subst f4_; subst f5_))
 refine hK.out _ _ ⟨(bc_ BK117.out 0).trans rfl, (bc_ BK117.out 1).trans rfl, (bc_ BK117.out 2).trans rfl, (bc_ BK118.out 0).trans rfl, (bc_ BK118.out 1).trans rfl, (bc_ BK118.out 2).trans rfl⟩ (fun hHeld => ?_); clear hK K; refine norm_ (a' := ?_) ?_ ?_; rotate_left
 ·
  show Act.put _ (some 23) _ = _
  simp only [Act.put, lt1_, lt2_, lt3_, i64_w, i32_w]; rfl
 refine one_ (i := 19) (N := some 24) #[true, true, true, true, true, true, true, true, true, true, true, true, true, true, true, true, true, true, true, true, false] rfl rfl (one_of HT_.out (by kernel_rfl)) (by decide) (fun K hK => ?_); refine goes_ Try.func52 (by kernel_rfl) rfl #[.slice Ao15 y123.length co15] (by rfl) rfl rfl au_ ?_
 with_reducible refine (cmp_Or_int.calls k _ _ y123 t126 _ ?side1 ?side2 A7.out).mono ?_
 (case side1 => repeat (first | exact (Kd.R_reads' HO125.out).2.2 | (with_reducible refine Kd.C_alloc ?_ _) | (with_reducible refine Kd.C_drewN ?_ _) | (with_reducible refine Kd.C_drew ?_)))
 (case side2 => exact (Kd.R_reads' HO125.out).2.1)
 rintro e w' ⟨rfl, ⟨nd, rfl⟩⟩; refine ⟨_, rfl, ?_⟩; refine hK.out _ _ ⟨(bc_ BK117.out 0).trans rfl, (bc_ BK117.out 1).trans rfl, (bc_ BK117.out 2).trans rfl, (bc_ BK118.out 0).trans rfl, (bc_ BK118.out 1).trans rfl, (bc_ BK118.out 2).trans rfl⟩ (fun hHeld => ?_); clear hK K; refine norm_ (a' := ?_) ?_ ?_; rotate_left
 ·
  show Act.put _ (some 24) _ = _
  simp only [Act.put, lt1_, lt2_, lt3_, i64_w, i32_w]; rfl
 refine pure_ (i := 20) (N := some 4) (v := ?_) (a' := ?_) #[true, true, true, true, true, true, true, true, true, true, true, true, true, true, true, true, true, true, true, true, true] rfl rfl (any_of HT_.out (by kernel_rfl)) (fun _ _ _ h => h) (Or.inl ⟨by rfl, ?_⟩) ?_ ?_; rotate_left; (intro w'; go_simp; with_reducible rfl); rotate_left; (simp only [Act.put, lt1_, lt2_, lt3_, i64_w, i32_w]; rfl); refine done_ (done_of HT_.out (by kernel_rfl)) ?_
 try go_wp2
 go_ret; exact ⟨by first | rfl | (simp [errW_none, errW_some] <;> rfl) | (simp [*, errW_none, errW_some] <;> rfl), pb2_ HB.out GE117.out GE118.out⟩
end Go.Proofs.Ytbigcpjlahkggaa.Q
end
