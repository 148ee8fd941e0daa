import Derived.Test.YtbigcpjlahkggaaKReplicaAccepts7
import Derived.Shelf.Small.Bits
import Derived.Shelf.Small.Wraps
import Derived.Shelf.Strconv.Itoa0
import Derived.Shelf.Sort.Plain
import Derived.Ground.Names2Prog
import Derived.Shelf.Slices.SearchI
import Derived.Shelf.Slices.In.SortNone
import Derived.Test.YtbigcpjlahkggaaProg
set_option linter.unusedVariables false
set_option linter.unusedSimpArgs false
section
namespace Go.Proofs
open Go.Shelf
def Try.lays215_ren : Go.Shelf.Ren := ⟨fun | 215 => 56 | n => n, fun | 3 => 3 | 4 => 4 | n => n, fun | n => n⟩
theorem Try.lays215 : Go.Proofs.Lays.n215 Try.prog Try.lays215_ren := {
  mixed := by kernel_rfl
  f215 := Try.func56.trans (congrArg some (by kernel_rfl))
  t3 := Try.underlying3
  a3 := Try.isAgg3
  z3 := Try.sizeOf3
  v3 := Try.zeroValue3
  t4 := Try.underlying4
  a4 := Try.isAgg4
  z4 := Try.sizeOf4
  v4 := Try.zeroValue4 }
open Go.RowKit in
theorem Try.cmp_isNaN_int (x : Int) (w : World) :
    Calls Try.prog 56 #[.int .i64 x] w fun e w' => e = .returned (.bool false) ∧ w' = w := Any.cmp_isNaN_int Try.lays215 x w
def Try.lays122_ren : Go.Shelf.Ren := ⟨fun | 122 => 53 | 215 => 56 | n => n, fun | 3 => 3 | 4 => 4 | n => n, fun | n => n⟩
theorem Try.lays122 : Go.Proofs.Lays.n122 Try.prog Try.lays122_ren := {
  mixed := by kernel_rfl
  f122 := Try.func53.trans (congrArg some (by kernel_rfl))
  f215 := Try.func56.trans (congrArg some (by kernel_rfl))
  t3 := Try.underlying3
  a3 := Try.isAgg3
  z3 := Try.sizeOf3
  v3 := Try.zeroValue3
  t4 := Try.underlying4
  a4 := Try.isAgg4
  z4 := Try.sizeOf4
  v4 := Try.zeroValue4 }
open Go.RowKit in
theorem Try.cmp_Compare_int (x y : Int) (w : World) :
    Calls Try.prog 53 #[.int .i64 x, .int .i64 y] w fun e w' => e = .returned (.int .i64 (Lib.compareInt x y)) ∧ w' = w := Any.cmp_Compare_int Try.lays122 x y w
def Try.lays189_ren : Go.Shelf.Ren := ⟨fun | 189 => 43 | 125 => 55 | 257 => 54 | 128 => 66 | 129 => 67 | 294 => 57 | 295 => 58 | 296 => 59 | 297 => 60 | 298 => 61 | 299 => 62 | 216 => 63 | 300 => 64 | 301 => 65 | 328 => 68 | 329 => 69 | 330 => 70 | 331 => 71 | 332 => 72 | 215 => 56 | 343 => 73 | n => n, fun | 28 => 64 | 3 => 3 | 46 => 106 | 0 => 0 | 51 => 117 | 53 => 119 | 4 => 4 | 183 => 109 | 182 => 108 | 131 => 114 | 5 => 5 | 9 => 9 | 218 => 120 | 222 => 124 | 228 => 126 | 229 => 127 | n => n, fun | n => n⟩
theorem Try.lays189 : Go.Proofs.Lays.n189 Try.prog Try.lays189_ren := {
  mixed := by kernel_rfl
  f125 := Try.func55.trans (congrArg some (by kernel_rfl))
  f128 := Try.func66.trans (congrArg some (by kernel_rfl))
  f129 := Try.func67.trans (congrArg some (by kernel_rfl))
  f189 := Try.func43.trans (congrArg some (by kernel_rfl))
  f215 := Try.func56.trans (congrArg some (by kernel_rfl))
  f216 := Try.func63.trans (congrArg some (by kernel_rfl))
  f257 := Try.func54.trans (congrArg some (by kernel_rfl))
  f294 := Try.func57.trans (congrArg some (by kernel_rfl))
  f295 := Try.func58.trans (congrArg some (by kernel_rfl))
  f296 := Try.func59.trans (congrArg some (by kernel_rfl))
  f297 := Try.func60.trans (congrArg some (by kernel_rfl))
  f298 := Try.func61.trans (congrArg some (by kernel_rfl))
  f299 := Try.func62.trans (congrArg some (by kernel_rfl))
  f300 := Try.func64.trans (congrArg some (by kernel_rfl))
  f301 := Try.func65.trans (congrArg some (by kernel_rfl))
  f328 := Try.func68.trans (congrArg some (by kernel_rfl))
  f329 := Try.func69.trans (congrArg some (by kernel_rfl))
  f330 := Try.func70.trans (congrArg some (by kernel_rfl))
  f331 := Try.func71.trans (congrArg some (by kernel_rfl))
  f332 := Try.func72.trans (congrArg some (by kernel_rfl))
  f343 := Try.func73.trans (congrArg some (by kernel_rfl))
  t0 := Try.underlying0
  a0 := Try.isAgg0
  z0 := Try.sizeOf0
  v0 := Try.zeroValue0
  t3 := Try.underlying3
  a3 := Try.isAgg3
  z3 := Try.sizeOf3
  v3 := Try.zeroValue3
  t4 := Try.underlying4
  a4 := Try.isAgg4
  z4 := Try.sizeOf4
  v4 := Try.zeroValue4
  t5 := Try.underlying5
  a5 := Try.isAgg5
  z5 := Try.sizeOf5
  v5 := Try.zeroValue5
  t9 := Try.underlying9
  a9 := Try.isAgg9
  z9 := Try.sizeOf9
  v9 := Try.zeroValue9
  t28 := Try.underlying64
  a28 := Try.isAgg64
  z28 := Try.sizeOf64
  v28 := Try.zeroValue64
  t46 := Try.underlying106
  a46 := Try.isAgg106
  z46 := Try.sizeOf106
  v46 := Try.zeroValue106
  t51 := Try.underlying117
  a51 := Try.isAgg117
  z51 := Try.sizeOf117
  v51 := Try.zeroValue117
  t53 := Try.underlying119
  a53 := Try.isAgg119
  z53 := Try.sizeOf119
  v53 := Try.zeroValue119
  t131 := Try.underlying114
  a131 := Try.isAgg114
  z131 := Try.sizeOf114
  v131 := Try.zeroValue114
  t182 := Try.underlying108
  a182 := Try.isAgg108
  z182 := Try.sizeOf108
  v182 := Try.zeroValue108
  t183 := Try.underlying109
  a183 := Try.isAgg109
  z183 := Try.sizeOf109
  v183 := Try.zeroValue109
  t218 := Try.underlying120
  a218 := Try.isAgg120
  z218 := Try.sizeOf120
  v218 := Try.zeroValue120
  t222 := Try.underlying124
  a222 := Try.isAgg124
  z222 := Try.sizeOf124
  v222 := Try.zeroValue124
  t228 := Try.underlying126
  a228 := Try.isAgg126
  z228 := Try.sizeOf126
  v228 := Try.zeroValue126
  t229 := Try.underlying127
  a229 := Try.isAgg127
  z229 := Try.sizeOf127
  v229 := Try.zeroValue127 }
open Go.Sort Go.RowKit in
theorem Try.slices_Sort_int (blk off cap : Nat) (zs : List Int) (w : World) (hH : Holds (Value.int .i64) w blk off zs.toArray) (hblk : blk < w.heap.size) (hsz : zs.length < 4611686018427387904) :
    Calls Try.prog 43 #[.slice (some ⟨blk, off, none⟩) zs.length cap] w fun e w' =>
      e = .returned (.tuple #[]) ∧ ∃ n os, w' = grow (putRow (Value.int .i64) (Sort.ahead w n) blk off (zs.mergeSort fun x y => decide (x ≤ y)).toArray) os := Any.slices_Sort_int Try.lays189 blk off cap zs w hH hblk hsz
open Go.RowKit Go.Sort in
theorem Try.slices_Sort_int_none (p : Option Addr) (cap : Nat) (w : World) :
    Calls Try.prog 43 #[.slice p 0 cap] w fun e w' => e = .returned (.tuple #[]) ∧ w' = w := Any.slices_Sort_int_none Try.lays189 p cap w
end Go.Proofs
end
section
namespace Go.Proofs.Ytbigcpjlahkggaa.Q
open Go.RowKit Go.Proofs.YtbigcpjlahkggaaW.PrintWords Go.Proofs.YtbigcpjlahkggaaW.PrintLast Go.Proofs.YtbigcpjlahkggaaW.PrintMore
attribute [local go_sem] max2_int min2_int max_two min_two max_three min_three max_four min_four
attribute [local go_sem ↓] isSome_setCell
attribute [local go_sem] string_gtr
set_option linter.unusedVariables false
set_option linter.unusedSimpArgs false
def slices_Sort_int_int.f (l0 : List Int) : Option (List Int) := if l0.length < 4611686018427387904 then some (l0.mergeSort fun x y => decide (x ≤ y)) else none
theorem slices_Sort_int_int.calls (P0_ : Nat → Prop) (u9000_ : Value) (l0 : List Int) (r : List Int) (w0 w : World) (hB : Below w0.heap.size w0 w) (ho0 : Kd.R (Kd.int .i64) 3 w w0.heap.size P0_ u9000_ l0) (h : slices_Sort_int_int.f l0 = some r) :
  Calls Try.prog 43 #[u9000_] w fun e w' => e = .returned (.tuple #[]) ∧ Kd.R (Kd.int .i64) 3 w' w0.heap.size (fun k_ => (P0_ k_ ∨ w.heap.size ≤ k_)) u9000_ r ∧ Below w0.heap.size w0 w' ∧ Kept w w' (fun k_ => P0_ k_) := by
 unfold slices_Sort_int_int.f at h
 split at h
 case isFalse => cases h
 rename_i hb
 obtain rfl := si_ h; have hlen : (l0.mergeSort fun x y => decide (x ≤ y)).length = l0.length := List.length_mergeSort l0; have ho := Kd.own_of_R ho0; rw [show encs (Value.int .i64) l0 = l0.map (Value.int .i64) from rfl] at ho; have hok := ho0.1; have hRR := ho0
 rcases ho.2 with ⟨rfl, h0⟩ | ⟨g, cap, cur, rfl, hg, hh, hn, hcap, hcs, ht⟩
 ·
  obtain rfl : l0 = [] := List.length_eq_zero_iff.1 h0; refine (Try.slices_Sort_int_none _ _ w).mono ?_; rintro e w' ⟨rfl, rfl⟩; exact ⟨rfl, by rw [List.mergeSort_nil]; exact Kd.R_mono hRR (fun k hk => .inl hk), hB, Kept.refl _ _⟩
 ·
  by_cases hz : l0 = []
  ·
   subst hz; refine (Try.slices_Sort_int_none _ _ w).mono ?_; rintro e w' ⟨rfl, rfl⟩; exact ⟨rfl, by rw [List.mergeSort_nil]; exact Kd.R_mono hRR (fun k hk => .inl hk), hB, Kept.refl _ _⟩
  ·
   have hlt : g < w.heap.size := (Array.getElem?_eq_some_iff.1 hh).1; rw [Nat.mul_one] at ht; refine (Try.slices_Sort_int g 0 cap l0 w (holds_of_blockI hh ht) hlt hb).mono ?_; rintro e w' ⟨rfl, n, os, rfl⟩; have hgb := grownBy_sortedI (w := w) (g := g) (n := n) (os := os) (l0.mergeSort fun x y => decide (x ≤ y)).toArray; have hown := ownsRow_sortedI (w := w) (base := w0.heap.size) (g := g) (cap := cap) (n := n) (e := 3) (os := os) hlen hg hh hn hcap hcs; have hPg : P0_ g := hok g rfl; refine ⟨rfl, ?_, hB.grown hgb hB.size (by intro k hk; cases hk; exact hg), ⟨hgb.size, fun i hi hS => hgb.block i hi (fun e => hS (by cases e; exact hPg))⟩⟩; have e2 : (Value.slice (some ⟨g, 0, none⟩) l0.length cap).ownBlock = some g := rfl; rw [← hlen] at hown; have := Kd.R_of_own (h1 := fun _ => rfl) (ok := fun k_ => (P0_ k_ ∨ w.heap.size ≤ k_)) hown (fun k hk => .inl (by cases hk; exact hPg)); rw [hlen] at this; exact this
end Go.Proofs.Ytbigcpjlahkggaa.Q
end
section
namespace Go.Proofs.Ytbigcpjlahkggaa.Q
open Go.RowKit Go.Proofs.YtbigcpjlahkggaaW.PrintWords Go.Proofs.YtbigcpjlahkggaaW.PrintLast Go.Proofs.YtbigcpjlahkggaaW.PrintMore
attribute [local go_sem] max2_int min2_int max_two min_two max_three min_three max_four min_four
attribute [local go_sem ↓] isSome_setCell
attribute [local go_sem] string_gtr
set_option linter.unusedVariables false
set_option linter.unusedSimpArgs false
mutual
def replica_Committed.l0 : Nat → List Int → List Int → Int → Int → Int → Int → List (S87) → Option (Int)
 | 0, _, _, _, _, _, _, _ => none
 | k + 1, x5, x16, x17, x18, x210000, x210001, x210002 => if x18 < x17 then (if 0 ≤ x18 then (if x18 < (x16.length : Int) then (if x18 < (x5.length : Int) then (replica_Committed.l0 k (x5.set (x18 : Int).toNat (mx 0 (mn (rd x16 x18) (x210002.length : Int)))) x16 x17 (wrap64 (x18 + 1)) x210000 x210001 x210002) else (none)) else (none)) else (none)) else ((slices_Sort_int_int.f x5).bind fun t216 => (if (x5.length : Int) > 0 then (if 0 ≤ (wrap64 (Int.tdiv (wrap64 ((x5.length : Int) - 1)) 2)) then (if (wrap64 (Int.tdiv (wrap64 ((x5.length : Int) - 1)) 2)) < (x5.length : Int) then (replica_Committed.j1 k (rd t216 (wrap64 (Int.tdiv (wrap64 ((x5.length : Int) - 1)) 2))) x210000 x210001 x210002) else (none)) else (none)) else (replica_Committed.j1 k 0 x210000 x210001 x210002)))
def replica_Committed.j1 : Nat → Int → Int → Int → List (S87) → Option (Int)
 | 0, _, _, _, _ => none
 | k + 1, x8, x210000, x210001, x210002 => replica_Committed.l1 k x8 x210000 x210001 x210002
def replica_Committed.l1 : Nat → Int → Int → Int → List (S87) → Option (Int)
 | 0, _, _, _, _ => none
 | k + 1, x8, x210000, x210001, x210002 => if x8 > 0 then (if 0 ≤ (wrap64 (x8 - 1)) then (if (wrap64 (x8 - 1)) < (x210002.length : Int) then (if ((rd_T87 x210002 (wrap64 (x8 - 1))).f0) = x210000 then (some (mx x8 x210001)) else (replica_Committed.l1 k (wrap64 (x8 - 1)) x210000 x210001 x210002)) else (none)) else (none)) else (some (mx x8 x210001))
end
def replica_Committed.f (k : Nat) (a0_0 : Int) (a0_1 : Int) (l0_2 : List (S87)) (l1 : List Int) : Option (Int) := (replica_Node_valid.f k a0_0 a0_1 l0_2).bind fun t210 => (if t210 = true then (if 0 ≤ (l1.length : Int) then (if ((l1.length : Int) : Int).toNat ≤ 35184372088832 then (replica_Committed.l0 k (List.replicate ((l1.length : Int) : Int).toNat 0) l1 (l1.length : Int) 0 a0_0 a0_1 l0_2) else (none)) else (none)) else (some 0))
set_option maxHeartbeats 8000000 in
set_option maxRecDepth 100000 in
theorem replica_Committed.calls (k : Nat) (a0_0 : Int) (a0_1 : Int) (A0_2 : Option Addr) (c0_2 : Nat) (l0_2 : List (S87)) (A1 : Option Addr) (c1 : Nat) (l1 : List Int) (r : Int) (w : World) (hr0_2 : Kd.C k87 w A0_2 l0_2.length l0_2) (hc0_2 : l0_2.length ≤ c0_2) (hr1 : Kd.C (Kd.int .i64) w A1 l1.length l1) (hc1 : l1.length ≤ c1) (h : replica_Committed.f k a0_0 a0_1 l0_2 l1 = some r) :
  Calls Try.prog 23 #[.agg #[.int .i64 a0_0, .int .i64 a0_1, .slice A0_2 l0_2.length c0_2], .slice A1 l1.length c1] w fun e w' => e = .returned (.int .i64 r) ∧ Below w.heap.size w w' := by
 have hu35 := Try.underlying35; have HR0_2 := am_ hr0_2; have HC0_2 := am_ hc0_2; clear hr0_2 hc0_2; have HR1 := am_ hr1; have HC1 := am_ hc1; clear hr1 hc1; have HB := am_ (Below.refl w.heap.size w); have H : ((replica_Node_valid.f k a0_0 a0_1 l0_2).bind fun t210 => (if t210 = true then (if 0 ≤ (l1.length : Int) then (if ((l1.length : Int) : Int).toNat ≤ 35184372088832 then (replica_Committed.l0 k (List.replicate ((l1.length : Int) : Int).toNat 0) l1 (l1.length : Int) 0 a0_0 a0_1 l0_2) else (none)) else (none)) else (some 0))) = some r := h; clear h; replace H := Option.bind_eq_some_iff.mp H; obtain ⟨t210, A30, H⟩ := H; replace H : (if t210 = true then (if 0 ≤ (l1.length : Int) then (if ((l1.length : Int) : Int).toNat ≤ 35184372088832 then (replica_Committed.l0 k (List.replicate ((l1.length : Int) : Int).toNat 0) l1 (l1.length : Int) 0 a0_0 a0_1 l0_2) else (none)) else (none)) else (some 0)) = some r := H; have A3 := am_ A30; clear A30
 by_cases c4 : t210 = true
 ·
  subst c4; have H1 : (if 0 ≤ (l1.length : Int) then (if ((l1.length : Int) : Int).toNat ≤ 35184372088832 then (replica_Committed.l0 k (List.replicate ((l1.length : Int) : Int).toNat 0) l1 (l1.length : Int) 0 a0_0 a0_1 l0_2) else (none)) else (none)) = some r := by rw [if_pos rfl] at H; exact H
  clear H; have H := H1; clear H1
  by_cases c5 : 0 ≤ (l1.length : Int)
  ·
   rw [if_pos c5] at H; have c5b0 := eq_true c5; have c5b1 : decide (0 ≤ (l1.length : Int)) = true := de_ c5; clear c5
   by_cases c6 : ((l1.length : Int) : Int).toNat ≤ 35184372088832
   ·
    rw [if_pos c6] at H; have c6b0 := eq_true c6; have c6b1 : decide (((l1.length : Int) : Int).toNat ≤ 35184372088832) = true := de_ c6; clear c6; obtain ⟨y211, hy211⟩ : ∃ y_ : List Int, y_ = (List.replicate ((l1.length : Int) : Int).toNat 0) := ⟨_, rfl⟩; replace H : (replica_Committed.l0 k y211 l1 (l1.length : Int) 0 a0_0 a0_1 l0_2) = some r := by first | (rw [hy211]; with_reducible exact H) | (have H2_ := (Option.bind_some _ _).symm.trans H; rw [hy211]; with_reducible exact H2_) | (have H2_ := (Option.bind_some _ _).symm.trans H; with_reducible exact H2_) | with_reducible exact H | (rw [hy211]; exact H) | exact H
    have Ny211 := am_ hy211; clear hy211; have H' := am_ H; clear H; go_enter Try.func23, Try.ntmps23
    go_wp2_with (first | ((with_reducible refine gate_dst (N := 2) rfl ?_); refine box_event ?hg (N := 2) ?hd (cs := #[.int .i64 a0_0, .int .i64 a0_1, .slice A0_2 l0_2.length c0_2]) (t := 35) ?hr ?_; (case hd => rfl); (case hg => rfl); (case hr => first | (go_simp; done) | (go_simp; rfl)); intro gb209 hg w7 hbox hb; have n0_ := am_ (sp_ (pb0_ HB.out) hb); have n1_ := am_ (hbox); have n2_ := am_ ((by rw [hg]; exact (bz_ (pb0_ HB.out)) : w.heap.size ≤ gb209)); have n3_ := am_ ((by rw [hg]; exact (bz_ (pb0_ HB.out)) : w.heap.size ≤ gb209)); clear HB; have HB := n0_; have BK209 := n1_; have GW209 := n2_; have GE209 := n3_; clear n0_ n1_ n2_ n3_; clear hb hbox hg; have hcz8_0 : w7.cell? ⟨gb209, 0, none⟩ = some (.int .i64 a0_0) := (bc_ BK209.out 0).trans rfl; have hcz8_1 : w7.cell? ⟨gb209, 1, none⟩ = some (.int .i64 a0_1) := (bc_ BK209.out 1).trans rfl; have hcz8_2 : w7.cell? ⟨gb209, 2, none⟩ = some (.slice A0_2 l0_2.length c0_2) := (bc_ BK209.out 2).trans rfl; have hfz8_0 := bf_ BK209.out 0; have hfz8_1 := bf_ BK209.out 1; have hfz8_2 := bf_ BK209.out 2) | (go_at_call 27; (with_reducible refine (replica_Node_valid.calls k a0_0 a0_1 _ _ l0_2 true _ ?side1 ?side2 A3.out).mono ?_); (case side1 => repeat (first | exact (Kd.C_below HR0_2.out HB.out) | (with_reducible refine Kd.C_alloc ?_ _) | (with_reducible refine Kd.C_drewN ?_ _) | (with_reducible refine Kd.C_drew ?_))); (case side2 => exact HC0_2.out); rintro e w9 ⟨rfl, hb⟩; have n0_ := am_ (bw_ (g := gb209) (o := .cells #[.int .i64 a0_0, .int .i64 a0_1, .slice A0_2 l0_2.length c0_2] 35 (0, 0)) (pk_ BK209.out) hb); have n1_ := am_ (sp_ (pb1_ HB.out GE209.out) hb); clear BK209; clear HB; have BK209 := n0_; have HB := n1_; clear n0_ n1_; (try clear hb); (try clear hb2); (try clear hk); (try clear hi)) | ((with_reducible refine gate_dst (N := 15) rfl ?_); refine Kd.R_make (Kd.int .i64) _ 3 rfl (N := 15) rfl 64 _ _ rfl (l1.length : Int) rfl rfl Try.underlying64 (.int .i64 0) 8 info3 rfl (by decide) (by omega) 0 (ok := fun _ => True) (okp := fun _ => True) rfl (fun _ hk => hk) trivial (ot_ (by first | (with_reducible assumption) | assumption)) (Nat.le_trans (Nat.mul_le_mul_right _ (ot_ (by first | (with_reducible assumption) | assumption) : (l1.length : Int).toNat ≤ 35184372088832)) (by omega)) (Below.refl _ _) (Nat.le_refl _) ?_; intro v212 w10 ho11 hb hg_ hnew_; clear hg_ hnew_; (first | rw [← Ny211.out] at ho11 | (simp only [Int.reduceToNat] at ho11; rw [← Ny211.out] at ho11)); have n0_ := am_ (Kd.R_lower ho11 (bz_ (pb1_ HB.out GE209.out))); have n1_ := am_ (bw_ (g := gb209) (o := .cells #[.int .i64 a0_0, .int .i64 a0_1, .slice A0_2 l0_2.length c0_2] 35 (0, 0)) (pk_ BK209.out) hb); have n2_ := am_ (sp_ (pb1_ HB.out GE209.out) hb); clear BK209; clear HB; have HO213 := n0_; have BK209 := n1_; have HB := n2_; clear n0_ n1_ n2_; clear hb ho11))
    repeat (go_quiet (first | ((with_reducible refine gate_dst (N := 2) rfl ?_); refine box_event ?hg (N := 2) ?hd (cs := #[.int .i64 a0_0, .int .i64 a0_1, .slice A0_2 l0_2.length c0_2]) (t := 35) ?hr ?_; (case hd => rfl); (case hg => rfl); (case hr => first | (go_simp; done) | (go_simp; rfl)); intro gb209 hg w7 hbox hb; have n0_ := am_ (sp_ (pb0_ HB.out) hb); have n1_ := am_ (hbox); have n2_ := am_ ((by rw [hg]; exact (bz_ (pb0_ HB.out)) : w.heap.size ≤ gb209)); have n3_ := am_ ((by rw [hg]; exact (bz_ (pb0_ HB.out)) : w.heap.size ≤ gb209)); clear HB; have HB := n0_; have BK209 := n1_; have GW209 := n2_; have GE209 := n3_; clear n0_ n1_ n2_ n3_; clear hb hbox hg; have hcz8_0 : w7.cell? ⟨gb209, 0, none⟩ = some (.int .i64 a0_0) := (bc_ BK209.out 0).trans rfl; have hcz8_1 : w7.cell? ⟨gb209, 1, none⟩ = some (.int .i64 a0_1) := (bc_ BK209.out 1).trans rfl; have hcz8_2 : w7.cell? ⟨gb209, 2, none⟩ = some (.slice A0_2 l0_2.length c0_2) := (bc_ BK209.out 2).trans rfl; have hfz8_0 := bf_ BK209.out 0; have hfz8_1 := bf_ BK209.out 1; have hfz8_2 := bf_ BK209.out 2) | (go_at_call 27; (with_reducible refine (replica_Node_valid.calls k a0_0 a0_1 _ _ l0_2 true _ ?side1 ?side2 A3.out).mono ?_); (case side1 => repeat (first | exact (Kd.C_below HR0_2.out HB.out) | (with_reducible refine Kd.C_alloc ?_ _) | (with_reducible refine Kd.C_drewN ?_ _) | (with_reducible refine Kd.C_drew ?_))); (case side2 => exact HC0_2.out); rintro e w9 ⟨rfl, hb⟩; have n0_ := am_ (bw_ (g := gb209) (o := .cells #[.int .i64 a0_0, .int .i64 a0_1, .slice A0_2 l0_2.length c0_2] 35 (0, 0)) (pk_ BK209.out) hb); have n1_ := am_ (sp_ (pb1_ HB.out GE209.out) hb); clear BK209; clear HB; have BK209 := n0_; have HB := n1_; clear n0_ n1_; (try clear hb); (try clear hb2); (try clear hk); (try clear hi)) | ((with_reducible refine gate_dst (N := 15) rfl ?_); refine Kd.R_make (Kd.int .i64) _ 3 rfl (N := 15) rfl 64 _ _ rfl (l1.length : Int) rfl rfl Try.underlying64 (.int .i64 0) 8 info3 rfl (by decide) (by omega) 0 (ok := fun _ => True) (okp := fun _ => True) rfl (fun _ hk => hk) trivial (ot_ (by first | (with_reducible assumption) | assumption)) (Nat.le_trans (Nat.mul_le_mul_right _ (ot_ (by first | (with_reducible assumption) | assumption) : (l1.length : Int).toNat ≤ 35184372088832)) (by omega)) (Below.refl _ _) (Nat.le_refl _) ?_; intro v212 w10 ho11 hb hg_ hnew_; clear hg_ hnew_; (first | rw [← Ny211.out] at ho11 | (simp only [Int.reduceToNat] at ho11; rw [← Ny211.out] at ho11)); have n0_ := am_ (Kd.R_lower ho11 (bz_ (pb1_ HB.out GE209.out))); have n1_ := am_ (bw_ (g := gb209) (o := .cells #[.int .i64 a0_0, .int .i64 a0_1, .slice A0_2 l0_2.length c0_2] 35 (0, 0)) (pk_ BK209.out) hb); have n2_ := am_ (sp_ (pb1_ HB.out GE209.out) hb); clear BK209; clear HB; have HO213 := n0_; have BK209 := n1_; have HB := n2_; clear n0_ n1_ n2_; clear hb ho11)); try go_wp2_with (first | ((with_reducible refine gate_dst (N := 2) rfl ?_); refine box_event ?hg (N := 2) ?hd (cs := #[.int .i64 a0_0, .int .i64 a0_1, .slice A0_2 l0_2.length c0_2]) (t := 35) ?hr ?_; (case hd => rfl); (case hg => rfl); (case hr => first | (go_simp; done) | (go_simp; rfl)); intro gb209 hg w7 hbox hb; have n0_ := am_ (sp_ (pb0_ HB.out) hb); have n1_ := am_ (hbox); have n2_ := am_ ((by rw [hg]; exact (bz_ (pb0_ HB.out)) : w.heap.size ≤ gb209)); have n3_ := am_ ((by rw [hg]; exact (bz_ (pb0_ HB.out)) : w.heap.size ≤ gb209)); clear HB; have HB := n0_; have BK209 := n1_; have GW209 := n2_; have GE209 := n3_; clear n0_ n1_ n2_ n3_; clear hb hbox hg; have hcz8_0 : w7.cell? ⟨gb209, 0, none⟩ = some (.int .i64 a0_0) := (bc_ BK209.out 0).trans rfl; have hcz8_1 : w7.cell? ⟨gb209, 1, none⟩ = some (.int .i64 a0_1) := (bc_ BK209.out 1).trans rfl; have hcz8_2 : w7.cell? ⟨gb209, 2, none⟩ = some (.slice A0_2 l0_2.length c0_2) := (bc_ BK209.out 2).trans rfl; have hfz8_0 := bf_ BK209.out 0; have hfz8_1 := bf_ BK209.out 1; have hfz8_2 := bf_ BK209.out 2) | (go_at_call 27; (with_reducible refine (replica_Node_valid.calls k a0_0 a0_1 _ _ l0_2 true _ ?side1 ?side2 A3.out).mono ?_); (case side1 => repeat (first | exact (Kd.C_below HR0_2.out HB.out) | (with_reducible refine Kd.C_alloc ?_ _) | (with_reducible refine Kd.C_drewN ?_ _) | (with_reducible refine Kd.C_drew ?_))); (case side2 => exact HC0_2.out); rintro e w9 ⟨rfl, hb⟩; have n0_ := am_ (bw_ (g := gb209) (o := .cells #[.int .i64 a0_0, .int .i64 a0_1, .slice A0_2 l0_2.length c0_2] 35 (0, 0)) (pk_ BK209.out) hb); have n1_ := am_ (sp_ (pb1_ HB.out GE209.out) hb); clear BK209; clear HB; have BK209 := n0_; have HB := n1_; clear n0_ n1_; (try clear hb); (try clear hb2); (try clear hk); (try clear hi)) | ((with_reducible refine gate_dst (N := 15) rfl ?_); refine Kd.R_make (Kd.int .i64) _ 3 rfl (N := 15) rfl 64 _ _ rfl (l1.length : Int) rfl rfl Try.underlying64 (.int .i64 0) 8 info3 rfl (by decide) (by omega) 0 (ok := fun _ => True) (okp := fun _ => True) rfl (fun _ hk => hk) trivial (ot_ (by first | (with_reducible assumption) | assumption)) (Nat.le_trans (Nat.mul_le_mul_right _ (ot_ (by first | (with_reducible assumption) | assumption) : (l1.length : Int).toNat ≤ 35184372088832)) (by omega)) (Below.refl _ _) (Nat.le_refl _) ?_; intro v212 w10 ho11 hb hg_ hnew_; clear hg_ hnew_; (first | rw [← Ny211.out] at ho11 | (simp only [Int.reduceToNat] at ho11; rw [← Ny211.out] at ho11)); have n0_ := am_ (Kd.R_lower ho11 (bz_ (pb1_ HB.out GE209.out))); have n1_ := am_ (bw_ (g := gb209) (o := .cells #[.int .i64 a0_0, .int .i64 a0_1, .slice A0_2 l0_2.length c0_2] 35 (0, 0)) (pk_ BK209.out) hb); have n2_ := am_ (sp_ (pb1_ HB.out GE209.out) hb); clear BK209; clear HB; have HO213 := n0_; have BK209 := n1_; have HB := n2_; clear n0_ n1_ n2_; clear hb ho11)))
    go_loopg [18] k (fun kq v18 w' => ∃ (x5_1 : List Int) (x18_1 : Int), v18 = .int .i64 x18_1 ∧ Aside0 (replica_Committed.l0 kq x5_1 l1 (l1.length : Int) x18_1 a0_0 a0_1 l0_2 = some r) ∧ Aside0 (kq ≤ k) ∧ Aside0 (Kd.R (Kd.int .i64) 3 w' w.heap.size (fun _ => True) v212 x5_1) ∧ Aside0 (w'.heap[gb209]? = some (.cells #[.int .i64 a0_0, .int .i64 a0_1, (.slice A0_2 l0_2.length c0_2)] 35 (0, 0))) ∧ Aside0 (Below w.heap.size w w'))
    case atStart => exact ⟨(y211), (0), (by first | rfl | (simp; done) | (simp [*]; done)), H', ⟨Nat.le_refl _⟩, ⟨by (with_reducible repeat (first | apply Kd.R_alloc | apply Kd.R_drewN | apply Kd.R_drew)); exact HO213.out⟩, ⟨by (with_reducible repeat (first | refine bn_ ?_ _ | refine bd_ ?_ | refine ba_ ?_ _)); exact BK209.out⟩, ⟨pb1_ HB.out GE209.out⟩⟩
    case round =>
     clear H'
     try clear c1
     try clear c2
     try clear p2
     try clear c4
     try clear c5
     try clear c5b0
     try clear c5b1
     try clear c6
     try clear c6b0
     try clear c6b1
     try clear hcz8_0
     try clear hcz8_1
     try clear hcz8_2
     try clear hfz8_0
     try clear hfz8_1
     try clear hfz8_2
     obtain ⟨x5_1, x18_1, rfl, HA, HK1, HO_5, BK209, HB⟩ := hrel; cases gk with
     | zero => exact absurd HA.out (by simp [replica_Committed.l0])
     | succ k1 =>
      have H := HA.out; clear HA; simp only [replica_Committed.l0] at H
      by_cases c12 : x18_1 < (l1.length : Int)
      ·
       rw [if_pos c12] at H; have c12b0 : decide (x18_1 < (l1.length : Int)) = true := de_ c12; clear c12
       by_cases c13 : 0 ≤ x18_1
       ·
        rw [if_pos c13] at H; have c13b0 : decide (0 ≤ x18_1) = true := de_ c13; clear c13
        by_cases c14 : x18_1 < (l1.length : Int)
        ·
         rw [if_pos c14] at H; have c14b0 : decide (x18_1 < (l1.length : Int)) = true := de_ c14; clear c14; obtain ⟨ji15, hji15⟩ : ∃ j_ : Int, (mn (rd l1 x18_1) (l0_2.length : Int)) = j_ := ⟨_, rfl⟩; replace H : (if x18_1 < (x5_1.length : Int) then (replica_Committed.l0 k1 (x5_1.set (x18_1 : Int).toNat (mx 0 (ji15))) l1 (l1.length : Int) (wrap64 (x18_1 + 1)) a0_0 a0_1 l0_2) else (none)) = some r := by first | (rw [hji15] at H; exact H) | (simp only [hji15] at H ⊢; exact H)
         have hji15_ : (if (l0_2.length : Int) < (rd l1 x18_1) then (l0_2.length : Int) else (rd l1 x18_1)) = ji15 := hji15; obtain ⟨ji16, hji16⟩ : ∃ j_ : Int, (mx 0 (ji15)) = j_ := ⟨_, rfl⟩; replace H : (if x18_1 < (x5_1.length : Int) then (replica_Committed.l0 k1 (x5_1.set (x18_1 : Int).toNat (ji16)) l1 (l1.length : Int) (wrap64 (x18_1 + 1)) a0_0 a0_1 l0_2) else (none)) = some r := by first | (rw [hji16] at H; exact H) | (simp only [hji16] at H ⊢; exact H)
         have hji16_ : (if 0 < (ji15) then (ji15) else 0) = ji16 := hji16
         by_cases c17 : x18_1 < (x5_1.length : Int)
         ·
          rw [if_pos c17] at H; have c17b0 : decide (x18_1 < (x5_1.length : Int)) = true := de_ c17; clear c17; obtain ⟨y215, hy215⟩ : ∃ y_ : List Int, y_ = (x5_1.set (x18_1 : Int).toNat (ji16)) := ⟨_, rfl⟩; replace H : (replica_Committed.l0 k1 y215 l1 (l1.length : Int) (wrap64 (x18_1 + 1)) a0_0 a0_1 l0_2) = some r := by first | (rw [hy215]; with_reducible exact H) | (have H2_ := (Option.bind_some _ _).symm.trans H; rw [hy215]; with_reducible exact H2_) | (have H2_ := (Option.bind_some _ _).symm.trans H; with_reducible exact H2_) | with_reducible exact H | (rw [hy215]; exact H) | exact H
          have Ny215 := am_ hy215; clear hy215; have H' := am_ H; clear H; have p214 : 0 ≤ (x18_1 : Int) := ot_ (by first | (with_reducible assumption) | assumption); have q214 : x18_1 < (l1.length : Int) := ot_ (by first | (with_reducible assumption) | assumption); obtain ⟨ad214, e214, hx214_0⟩ := Kd.at_int HR1.out x18_1 p214 q214; cases e214; replace hx214_0 := (HB.out.cell (bk_ w _ hx214_0)).trans hx214_0; replace p214 := eq_true p214; replace q214 := eq_true q214; have hcz19_0 : wr.cell? ⟨gb209, 0, none⟩ = some (.int .i64 a0_0) := (bc_ BK209.out 0).trans rfl; have hcz19_1 : wr.cell? ⟨gb209, 1, none⟩ = some (.int .i64 a0_1) := (bc_ BK209.out 1).trans rfl; have hcz19_2 : wr.cell? ⟨gb209, 2, none⟩ = some (.slice A0_2 l0_2.length c0_2) := (bc_ BK209.out 2).trans rfl; have hfz19_0 := bf_ BK209.out 0; have hfz19_1 := bf_ BK209.out 1; have hfz19_2 := bf_ BK209.out 2; have p18 : 0 ≤ (x18_1 : Int) := ot_ (by first | (with_reducible assumption) | assumption); have q18 : (x18_1 : Int) < ((x5_1.length : Int) : Int) := ot_ (by first | (with_reducible assumption) | assumption); obtain ⟨go18, co18, eo18, gb18, gl18, cl18, HG18⟩ := Kd.R_form HO_5.out (by omega)
          (first | cases eo18 | (injection eo18 with ea_ en_ ec_; (first | subst ea_ | (injection ea_ with ea_; subst ea_)); subst ec_; clear en_))
          have GB18 := am_ gb18; have GG18 := am_ HG18; clear gb18 gl18 HG18; obtain ⟨hx18_0, hf18_0⟩ := Kd.R_celln 0 HO_5.out (x18_1 : Int) p18 q18; replace p18 := eq_true p18; replace q18 := eq_true q18; have HP20 := Kd.R_putg HO_5.out (x18_1 : Int) ji16
          go_wp2_with (first | ((with_reducible refine gate_store (t := 3) (p := 31) rfl ?_); (try (rw [drewN_self wr]; generalize hq_ : World.drewN wr _ = wr; have n0_ := am_ (Kd.R_at hq_ HO_5.out); have n1_ := am_ (blk_at hq_ BK209.out); have n2_ := am_ (below_at hq_ HB.out); clear hq_ HO_5 BK209 HB; have HO_5 := n0_; have BK209 := n1_; have HB := n2_; clear n0_ n1_ n2_; (try (have HP20 := Kd.R_putg HO_5.out (x18_1 : Int) ji16)))); refine store_event (t := 3) (p := 31) (v := ?vo_w21) (w1 := (wr.setCell ⟨go18, (x18_1 : Int).toNat, none⟩ (.int .i64 ji16))) ?hg ?ho ?hn ?hr ?_; (case ho => rfl); (case hg => rfl); (case hn => rfl); (case hr => first | (go_simp; done) | (go_simp; rfl)); intro w21 hw; have hg : wr.grownBy w21 (some go18) := (by rw [hw]; exact HP20.2); have hp_ : Kd.R (Kd.int .i64) 3 w21 w.heap.size (fun _ => True) (.slice (some ⟨go18, 0, none⟩) x5_1.length co18) y215 := (by rw [hw, Ny215.out]; exact HP20.1); clear HP20; have n0_ := am_ (hp_); have n1_ := am_ (blk_grown (g := gb209) (o := .cells #[.int .i64 a0_0, .int .i64 a0_1, .slice A0_2 l0_2.length c0_2] 35 (0, 0)) (pk_ BK209.out) hg (Kd.R_ne HO_5.out BK209.out (by decide))); have n2_ := am_ ((by rw [hw]; exact bs_ (HB.out) GB18.out : Below w.heap.size w w21)); clear HO_5; clear BK209; clear HB; have HO_5 := n0_; have BK209 := n1_; have HB := n2_; clear n0_ n1_ n2_; clear hg hw hp_))
          repeat (go_quiet (first | ((with_reducible refine gate_store (t := 3) (p := 31) rfl ?_); (try (rw [drewN_self wr]; generalize hq_ : World.drewN wr _ = wr; have n0_ := am_ (Kd.R_at hq_ HO_5.out); have n1_ := am_ (blk_at hq_ BK209.out); have n2_ := am_ (below_at hq_ HB.out); clear hq_ HO_5 BK209 HB; have HO_5 := n0_; have BK209 := n1_; have HB := n2_; clear n0_ n1_ n2_; (try (have HP20 := Kd.R_putg HO_5.out (x18_1 : Int) ji16)))); refine store_event (t := 3) (p := 31) (v := ?vo_w21) (w1 := (wr.setCell ⟨go18, (x18_1 : Int).toNat, none⟩ (.int .i64 ji16))) ?hg ?ho ?hn ?hr ?_; (case ho => rfl); (case hg => rfl); (case hn => rfl); (case hr => first | (go_simp; done) | (go_simp; rfl)); intro w21 hw; have hg : wr.grownBy w21 (some go18) := (by rw [hw]; exact HP20.2); have hp_ : Kd.R (Kd.int .i64) 3 w21 w.heap.size (fun _ => True) (.slice (some ⟨go18, 0, none⟩) x5_1.length co18) y215 := (by rw [hw, Ny215.out]; exact HP20.1); clear HP20; have n0_ := am_ (hp_); have n1_ := am_ (blk_grown (g := gb209) (o := .cells #[.int .i64 a0_0, .int .i64 a0_1, .slice A0_2 l0_2.length c0_2] 35 (0, 0)) (pk_ BK209.out) hg (Kd.R_ne HO_5.out BK209.out (by decide))); have n2_ := am_ ((by rw [hw]; exact bs_ (HB.out) GB18.out : Below w.heap.size w w21)); clear HO_5; clear BK209; clear HB; have HO_5 := n0_; have BK209 := n1_; have HB := n2_; clear n0_ n1_ n2_; clear hg hw hp_)); try go_wp2_with (first | ((with_reducible refine gate_store (t := 3) (p := 31) rfl ?_); (try (rw [drewN_self wr]; generalize hq_ : World.drewN wr _ = wr; have n0_ := am_ (Kd.R_at hq_ HO_5.out); have n1_ := am_ (blk_at hq_ BK209.out); have n2_ := am_ (below_at hq_ HB.out); clear hq_ HO_5 BK209 HB; have HO_5 := n0_; have BK209 := n1_; have HB := n2_; clear n0_ n1_ n2_; (try (have HP20 := Kd.R_putg HO_5.out (x18_1 : Int) ji16)))); refine store_event (t := 3) (p := 31) (v := ?vo_w21) (w1 := (wr.setCell ⟨go18, (x18_1 : Int).toNat, none⟩ (.int .i64 ji16))) ?hg ?ho ?hn ?hr ?_; (case ho => rfl); (case hg => rfl); (case hn => rfl); (case hr => first | (go_simp; done) | (go_simp; rfl)); intro w21 hw; have hg : wr.grownBy w21 (some go18) := (by rw [hw]; exact HP20.2); have hp_ : Kd.R (Kd.int .i64) 3 w21 w.heap.size (fun _ => True) (.slice (some ⟨go18, 0, none⟩) x5_1.length co18) y215 := (by rw [hw, Ny215.out]; exact HP20.1); clear HP20; have n0_ := am_ (hp_); have n1_ := am_ (blk_grown (g := gb209) (o := .cells #[.int .i64 a0_0, .int .i64 a0_1, .slice A0_2 l0_2.length c0_2] 35 (0, 0)) (pk_ BK209.out) hg (Kd.R_ne HO_5.out BK209.out (by decide))); have n2_ := am_ ((by rw [hw]; exact bs_ (HB.out) GB18.out : Below w.heap.size w w21)); clear HO_5; clear BK209; clear HB; have HO_5 := n0_; have BK209 := n1_; have HB := n2_; clear n0_ n1_ n2_; clear hg hw hp_)))
          go_roundg k1
          case measure => have := HK1.out; omega
          case rel => exact ⟨(y215), (wrap64 (x18_1 + 1)), (by first | rfl | (simp; done) | (simp [*]; done)), H', ⟨by have := HK1.out; omega⟩, ⟨by (with_reducible repeat (first | apply Kd.R_alloc | apply Kd.R_drewN | apply Kd.R_drew)); exact HO_5.out⟩, ⟨by (with_reducible repeat (first | refine bn_ ?_ _ | refine bd_ ?_ | refine ba_ ?_ _)); exact BK209.out⟩, ⟨pb1_ HB.out GE209.out⟩⟩
         ·
          rw [if_neg c17] at H; exact absurd H (by simp)
        ·
         rw [if_neg c14] at H; exact absurd H (by simp)
       ·
        rw [if_neg c13] at H; exact absurd H (by simp)
      ·
       rw [if_neg c12] at H; have c12b0 : decide (x18_1 < (l1.length : Int)) = false := df_ c12; clear c12; replace H := Option.bind_eq_some_iff.mp H; obtain ⟨t216, A220, H⟩ := H; replace H : (if (x5_1.length : Int) > 0 then (if 0 ≤ (wrap64 (Int.tdiv (wrap64 ((x5_1.length : Int) - 1)) 2)) then (if (wrap64 (Int.tdiv (wrap64 ((x5_1.length : Int) - 1)) 2)) < (x5_1.length : Int) then (replica_Committed.j1 k1 (rd t216 (wrap64 (Int.tdiv (wrap64 ((x5_1.length : Int) - 1)) 2))) a0_0 a0_1 l0_2) else (none)) else (none)) else (replica_Committed.j1 k1 0 a0_0 a0_1 l0_2)) = some r := H; have A22 := am_ A220; clear A220; have HC23 := am_ H; clear H; obtain ⟨Ao24, co24, eo24⟩ := Kd.R_slice HO_5.out; subst eo24
       go_upto_if 38 with (first | (go_at_call 43; (with_reducible refine (slices_Sort_int_int.calls (fun k_ => some k_ = (.slice Ao24 x5_1.length co24 : Value).ownBlock) (.slice Ao24 x5_1.length co24) x5_1 t216 w _ ?side1 ?side2 A22.out).mono ?_); (case side1 => repeat (first | (with_reducible first | exact HB.out | apply bl_ | apply pb_ | apply b1_ | refine bs_ ?_ GE209.out) | exact HB.out)); (case side2 => exact Kd.R_tight rfl HO_5.out); rintro e w25 ⟨rfl, hy0, hb, hkp⟩; have n0_ := am_ (Kd.R_reok rfl hy0 (fun k_ e_ => HO_5.out.1 k_ e_)); have n1_ := am_ (blk_kept (pk_ BK209.out) hkp (fun hs_ => (fun e_ => (Kd.R_ne HO_5.out BK209.out (by decide)) e_) hs_)); have n2_ := am_ (hb); clear HO_5; clear BK209; clear HB; have HO_5 := n0_; have BK209 := n1_; have HB := n2_; clear n0_ n1_ n2_; (try clear hb); (try clear hkp); (try clear hy0)))
       repeat (go_quiet (first | (go_at_call 43; (with_reducible refine (slices_Sort_int_int.calls (fun k_ => some k_ = (.slice Ao24 x5_1.length co24 : Value).ownBlock) (.slice Ao24 x5_1.length co24) x5_1 t216 w _ ?side1 ?side2 A22.out).mono ?_); (case side1 => repeat (first | (with_reducible first | exact HB.out | apply bl_ | apply pb_ | apply b1_ | refine bs_ ?_ GE209.out) | exact HB.out)); (case side2 => exact Kd.R_tight rfl HO_5.out); rintro e w25 ⟨rfl, hy0, hb, hkp⟩; have n0_ := am_ (Kd.R_reok rfl hy0 (fun k_ e_ => HO_5.out.1 k_ e_)); have n1_ := am_ (blk_kept (pk_ BK209.out) hkp (fun hs_ => (fun e_ => (Kd.R_ne HO_5.out BK209.out (by decide)) e_) hs_)); have n2_ := am_ (hb); clear HO_5; clear BK209; clear HB; have HO_5 := n0_; have BK209 := n1_; have HB := n2_; clear n0_ n1_ n2_; (try clear hb); (try clear hkp); (try clear hy0))); go_upto_if 38 with (first | (go_at_call 43; (with_reducible refine (slices_Sort_int_int.calls (fun k_ => some k_ = (.slice Ao24 x5_1.length co24 : Value).ownBlock) (.slice Ao24 x5_1.length co24) x5_1 t216 w _ ?side1 ?side2 A22.out).mono ?_); (case side1 => repeat (first | (with_reducible first | exact HB.out | apply bl_ | apply pb_ | apply b1_ | refine bs_ ?_ GE209.out) | exact HB.out)); (case side2 => exact Kd.R_tight rfl HO_5.out); rintro e w25 ⟨rfl, hy0, hb, hkp⟩; have n0_ := am_ (Kd.R_reok rfl hy0 (fun k_ e_ => HO_5.out.1 k_ e_)); have n1_ := am_ (blk_kept (pk_ BK209.out) hkp (fun hs_ => (fun e_ => (Kd.R_ne HO_5.out BK209.out (by decide)) e_) hs_)); have n2_ := am_ (hb); clear HO_5; clear BK209; clear HB; have HO_5 := n0_; have BK209 := n1_; have HB := n2_; clear n0_ n1_ n2_; (try clear hb); (try clear hkp); (try clear hy0))))
       (try simp only [Act.put, lt1_, lt2_, lt3_])
       go_cut [8] (fun v8 wc => ∃ (kq : Nat) (x8_22 : Int), v8 = .int .i64 x8_22 ∧ Aside0 (replica_Committed.j1 kq x8_22 a0_0 a0_1 l0_2 = some r) ∧ Aside0 (kq ≤ k1) ∧ Aside0 (wc.heap[gb209]? = some (.cells #[.int .i64 a0_0, .int .i64 a0_1, (.slice A0_2 l0_2.length c0_2)] 35 (0, 0))) ∧ Aside0 (Below w.heap.size w wc))
       case first =>
        have H := HC23.out; clear HC23
        by_cases c26 : (x5_1.length : Int) > 0
        ·
         rw [if_pos c26] at H; have c26b0 : decide (0 < (x5_1.length : Int)) = true := de_ c26; have c26b1 : decide (0 < x5_1.length) = true := de_ (by omega); clear c26
         (first | rw [c26b0] | (simp only [i64_w, i32_w]; rw [c26b0]) | rw [c26b2] | rw [c26b1] | skip)
         obtain ⟨ji27, hji27⟩ : ∃ j_ : Int, (wrap64 (Int.tdiv (wrap64 ((x5_1.length : Int) - 1)) 2)) = j_ := ⟨_, rfl⟩; replace H : (if 0 ≤ (ji27) then (if (ji27) < (x5_1.length : Int) then (replica_Committed.j1 k1 (rd t216 (ji27)) a0_0 a0_1 l0_2) else (none)) else (none)) = some r := by first | (rw [hji27] at H; exact H) | (simp only [hji27] at H ⊢; exact H)
         have hji27w : (IntKind.i64.wrap (Int.tdiv (wrap64 ((x5_1.length : Int) - 1)) 2)) = ji27 := (i64_w _).trans hji27
         by_cases c28 : 0 ≤ (ji27)
         ·
          rw [if_pos c28] at H; have c28b0 : decide (0 ≤ (ji27)) = true := de_ c28; clear c28
          by_cases c29 : (ji27) < (x5_1.length : Int)
          ·
           rw [if_pos c29] at H; have c29b0 : decide ((ji27) < (x5_1.length : Int)) = true := de_ c29; clear c29; have H' := am_ H; clear H; have p217 : 0 ≤ ((ji27) : Int) := ot_ (by first | (with_reducible assumption) | assumption); have q217 : (ji27) < (t216.length : Int) := (by have h_ : ((ji27) : Int) < ((x5_1.length : Int) : Int) := ot_ (by first | (with_reducible assumption) | assumption); have e_ := (Kd.R_reads' HO_5.out).1; omega); have ql217 : (((ji27) : Int) < ((x5_1.length : Int) : Int)) = True := eq_true (ot_ (by first | (with_reducible assumption) | assumption)); obtain ⟨ad217, e217, hx217_0⟩ := Kd.at_int (Kd.R_reads' HO_5.out).2.2 (ji27) p217 q217; cases e217; replace p217 := eq_true p217; replace q217 := eq_true q217; go_wp2
           repeat (go_quiet (fail); try go_wp2)
           go_meet
           case rel => exact ⟨_, (rd t216 (ji27)), (by first | rfl | (simp; done) | (simp only [← hji27] <;> (first | rfl | simp)) | (simp [*]; done)), H', ⟨by have := HK1.out; first | omega | exact Nat.le_refl _⟩, ⟨by (with_reducible repeat (first | refine bn_ ?_ _ | refine bd_ ?_ | refine ba_ ?_ _)); exact BK209.out⟩, ⟨pb1_ HB.out GE209.out⟩⟩
          ·
           rw [if_neg c29] at H; exact absurd H (by simp)
         ·
          rw [if_neg c28] at H; exact absurd H (by simp)
        ·
         rw [if_neg c26] at H; have c26b0 : decide (0 < (x5_1.length : Int)) = false := df_ c26; have c26b1 : decide (0 < x5_1.length) = false := df_ (by omega); clear c26
         (first | rw [c26b0] | (simp only [i64_w, i32_w]; rw [c26b0]) | rw [c26b2] | rw [c26b1] | skip)
         have H' := am_ H; clear H; go_wp2
         repeat (go_quiet (fail); try go_wp2)
         go_meet
         case rel => exact ⟨_, (0), (by first | rfl | (simp; done) | (simp [*]; done)), H', ⟨by have := HK1.out; first | omega | exact Nat.le_refl _⟩, ⟨by (with_reducible repeat (first | refine bn_ ?_ _ | refine bd_ ?_ | refine ba_ ?_ _)); exact BK209.out⟩, ⟨pb1_ HB.out GE209.out⟩⟩
       case rest =>
        clear HC23
        try clear c1
        try clear p1
        try clear q1
        try clear hx1
        try clear c2
        try clear p2
        try clear q2
        try clear hx2
        try clear c4
        try clear c5
        try clear c5b0
        try clear c5b1
        try clear c6
        try clear c6b0
        try clear c6b1
        try clear p6
        try clear c12
        try clear c12b0
        try clear c13
        try clear c13b0
        try clear c14
        try clear c14b0
        try clear c17
        try clear c17b0
        try clear p18
        try clear q18
        try clear hx18
        try clear hf18
        try clear p21
        try clear q21
        try clear hx21
        try clear c23
        try clear c26
        try clear c26b0
        try clear c26b1
        try clear c26b2
        try clear c28
        try clear c28b0
        try clear c29
        try clear c29b0
        try clear hcz19_0
        try clear hcz19_1
        try clear hcz19_2
        try clear hcz8_0
        try clear hcz8_1
        try clear hcz8_2
        try clear hfz19_0
        try clear hfz19_1
        try clear hfz19_2
        try clear hfz8_0
        try clear hfz8_1
        try clear hfz8_2
        try clear hx18_0
        try clear hx214_0
        try clear hx217_0
        try clear p18
        try clear p2
        try clear p214
        try clear p217
        try clear q18
        try clear q214
        try clear q217
        obtain ⟨kq, x8_22, rfl, HA, HJ22, BK209, HB⟩ := hcut; cases kq with
        | zero => exact absurd HA.out (by simp [replica_Committed.j1])
        | succ kj22 =>
         have H := HA.out; clear HA; simp only [replica_Committed.j1] at H; have H' := am_ H; clear H; go_wp2
         repeat (go_quiet (fail); try go_wp2)
         go_loopg [8] kj22 (fun kq v8 w' => ∃ (x8_3 : Int), v8 = .int .i64 x8_3 ∧ Aside0 (replica_Committed.l1 kq x8_3 a0_0 a0_1 l0_2 = some r) ∧ Aside0 (kq ≤ kj22) ∧ Aside0 (w'.heap[gb209]? = some (.cells #[.int .i64 a0_0, .int .i64 a0_1, (.slice A0_2 l0_2.length c0_2)] 35 (0, 0))) ∧ Aside0 (Below w.heap.size w w'))
         case atStart => exact ⟨(x8_22), (by first | rfl | (simp; done) | (simp [*]; done)), H', ⟨Nat.le_refl _⟩, ⟨by (with_reducible repeat (first | refine bn_ ?_ _ | refine bd_ ?_ | refine ba_ ?_ _)); exact BK209.out⟩, ⟨pb1_ HB.out GE209.out⟩⟩
         case round =>
          clear H'
          try clear c1
          try clear p1
          try clear q1
          try clear hx1
          try clear c2
          try clear p2
          try clear q2
          try clear hx2
          try clear c4
          try clear c5
          try clear c5b0
          try clear c5b1
          try clear c6
          try clear c6b0
          try clear c6b1
          try clear p6
          try clear c12
          try clear c12b0
          try clear c13
          try clear c13b0
          try clear c14
          try clear c14b0
          try clear c17
          try clear c17b0
          try clear p18
          try clear q18
          try clear hx18
          try clear hf18
          try clear p21
          try clear q21
          try clear hx21
          try clear c23
          try clear c26
          try clear c26b0
          try clear c26b1
          try clear c26b2
          try clear c28
          try clear c28b0
          try clear c29
          try clear c29b0
          try clear hcz19_0
          try clear hcz19_1
          try clear hcz19_2
          try clear hcz8_0
          try clear hcz8_1
          try clear hcz8_2
          try clear hfz19_0
          try clear hfz19_1
          try clear hfz19_2
          try clear hfz8_0
          try clear hfz8_1
          try clear hfz8_2
          try clear hx18_0
          try clear hx214_0
          try clear hx217_0
          try clear p1
          try clear p18
          try clear p2
          try clear p21
          try clear p214
          try clear p217
          try clear p6
          try clear q1
          try clear q18
          try clear q2
          try clear q21
          try clear q214
          try clear q217
          obtain ⟨x8_3, rfl, HA, HK3, BK209, HB⟩ := hrel; cases gk with
          | zero => exact absurd HA.out (by simp [replica_Committed.l1])
          | succ k3 =>
           have H := HA.out; clear HA; simp only [replica_Committed.l1] at H
           by_cases c30 : x8_3 > 0
           ·
            rw [if_pos c30] at H; have c30b0 : decide (0 < x8_3) = true := de_ c30; clear c30; obtain ⟨ji31, hji31⟩ : ∃ j_ : Int, (wrap64 (x8_3 - 1)) = j_ := ⟨_, rfl⟩; replace H : (if 0 ≤ (ji31) then (if (ji31) < (l0_2.length : Int) then (if ((rd_T87 l0_2 (ji31)).f0) = a0_0 then (some (mx x8_3 a0_1)) else (replica_Committed.l1 k3 ji31 a0_0 a0_1 l0_2)) else (none)) else (none)) = some r := by first | (rw [hji31] at H; exact H) | (simp only [hji31] at H ⊢; exact H)
            have hji31w : (IntKind.i64.wrap (x8_3 - 1)) = ji31 := (i64_w _).trans hji31
            by_cases c32 : 0 ≤ (ji31)
            ·
             rw [if_pos c32] at H; have c32b0 : decide (0 ≤ (ji31)) = true := de_ c32; clear c32
             by_cases c33 : (ji31) < (l0_2.length : Int)
             ·
              rw [if_pos c33] at H; have c33b0 : decide ((ji31) < (l0_2.length : Int)) = true := de_ c33; clear c33
              by_cases c34 : ((rd_T87 l0_2 (ji31)).f0) = a0_0
              ·
               rw [if_pos c34] at H; have c34b0 : (((rd_T87 l0_2 (ji31)).f0) == a0_0) = true := beq_iff_eq.mpr c34; have c34b1 : (((rd_T87 l0_2 (ji31)).f0) != a0_0) = false := bne_eq_false_iff_eq.mpr c34; clear c34; obtain ⟨ji35, hji35⟩ : ∃ j_ : Int, (mx x8_3 a0_1) = j_ := ⟨_, rfl⟩; replace H : (some ji35) = some r := by first | (rw [hji35] at H; exact H) | (simp only [hji35] at H ⊢; exact H)
               have hji35_ : (if x8_3 < a0_1 then a0_1 else x8_3) = ji35 := hji35; obtain rfl := si_ H; have hcz36_0 : wr.cell? ⟨gb209, 0, none⟩ = some (.int .i64 a0_0) := (bc_ BK209.out 0).trans rfl; have hcz36_1 : wr.cell? ⟨gb209, 1, none⟩ = some (.int .i64 a0_1) := (bc_ BK209.out 1).trans rfl; have hcz36_2 : wr.cell? ⟨gb209, 2, none⟩ = some (.slice A0_2 l0_2.length c0_2) := (bc_ BK209.out 2).trans rfl; have hfz36_0 := bf_ BK209.out 0; have hfz36_1 := bf_ BK209.out 1; have hfz36_2 := bf_ BK209.out 2; have p218 : 0 ≤ ((ji31) : Int) := ot_ (by first | (with_reducible assumption) | assumption); have q218 : (ji31) < (l0_2.length : Int) := ot_ (by first | (with_reducible assumption) | assumption); obtain ⟨ad218, A218_1, c218_1, e218, hx218_0, hx218_1, hl218_1, hi218_1⟩ := at_T87 HR0_2.out (ji31) p218 q218; cases e218; replace hx218_0 := (HB.out.cell (bk_ w _ hx218_0)).trans hx218_0; replace hx218_1 := (HB.out.cell (bk_ w _ hx218_1)).trans hx218_1; have HR218_1 := am_ hi218_1; have HC218_1 := am_ hl218_1; clear hi218_1 hl218_1; replace p218 := eq_true p218; replace q218 := eq_true q218; go_wp2
               repeat (go_quiet (fail); try go_wp2)
               go_ret; exact ⟨by first | rfl | (simp [errW_none, errW_some] <;> rfl) | (simp only [← hji31, ← hji35]; first | rfl | (simp [errW_none, errW_some] <;> rfl)) | (simp [*, errW_none, errW_some] <;> rfl), pb1_ HB.out GE209.out⟩
              ·
               rw [if_neg c34] at H; have c34b0 : (((rd_T87 l0_2 (ji31)).f0) == a0_0) = false := beq_eq_false_iff_ne.mpr c34; have c34b1 : (((rd_T87 l0_2 (ji31)).f0) != a0_0) = true := bne_iff_ne.mpr c34; have H' := am_ H; clear H; have hcz37_0 : wr.cell? ⟨gb209, 0, none⟩ = some (.int .i64 a0_0) := (bc_ BK209.out 0).trans rfl; have hcz37_1 : wr.cell? ⟨gb209, 1, none⟩ = some (.int .i64 a0_1) := (bc_ BK209.out 1).trans rfl; have hcz37_2 : wr.cell? ⟨gb209, 2, none⟩ = some (.slice A0_2 l0_2.length c0_2) := (bc_ BK209.out 2).trans rfl; have hfz37_0 := bf_ BK209.out 0; have hfz37_1 := bf_ BK209.out 1; have hfz37_2 := bf_ BK209.out 2; have p218 : 0 ≤ ((ji31) : Int) := ot_ (by first | (with_reducible assumption) | assumption); have q218 : (ji31) < (l0_2.length : Int) := ot_ (by first | (with_reducible assumption) | assumption); obtain ⟨ad218, A218_1, c218_1, e218, hx218_0, hx218_1, hl218_1, hi218_1⟩ := at_T87 HR0_2.out (ji31) p218 q218; cases e218; replace hx218_0 := (HB.out.cell (bk_ w _ hx218_0)).trans hx218_0; replace hx218_1 := (HB.out.cell (bk_ w _ hx218_1)).trans hx218_1; have HR218_1 := am_ hi218_1; have HC218_1 := am_ hl218_1; clear hi218_1 hl218_1; replace p218 := eq_true p218; replace q218 := eq_true q218; go_wp2
               repeat (go_quiet (fail); try go_wp2)
               go_roundg k3
               case measure => have := HK1.out; have := HJ22.out; have := HK3.out; omega
               case rel => exact ⟨(ji31), (by first | rfl | (simp; done) | (simp only [← hji31] <;> (first | rfl | simp)) | (simp [*]; done)), H', ⟨by have := HK1.out; have := HJ22.out; have := HK3.out; omega⟩, ⟨by (with_reducible repeat (first | refine bn_ ?_ _ | refine bd_ ?_ | refine ba_ ?_ _)); exact BK209.out⟩, ⟨pb1_ HB.out GE209.out⟩⟩
             ·
              rw [if_neg c33] at H; exact absurd H (by simp)
            ·
             rw [if_neg c32] at H; exact absurd H (by simp)
           ·
            rw [if_neg c30] at H; have c30b0 : decide (0 < x8_3) = false := df_ c30; clear c30; obtain ⟨ji38, hji38⟩ : ∃ j_ : Int, (mx x8_3 a0_1) = j_ := ⟨_, rfl⟩; replace H : (some ji38) = some r := by first | (rw [hji38] at H; exact H) | (simp only [hji38] at H ⊢; exact H)
            have hji38_ : (if x8_3 < a0_1 then a0_1 else x8_3) = ji38 := hji38; obtain rfl := si_ H; have hcz39_0 : wr.cell? ⟨gb209, 0, none⟩ = some (.int .i64 a0_0) := (bc_ BK209.out 0).trans rfl; have hcz39_1 : wr.cell? ⟨gb209, 1, none⟩ = some (.int .i64 a0_1) := (bc_ BK209.out 1).trans rfl; have hcz39_2 : wr.cell? ⟨gb209, 2, none⟩ = some (.slice A0_2 l0_2.length c0_2) := (bc_ BK209.out 2).trans rfl; have hfz39_0 := bf_ BK209.out 0; have hfz39_1 := bf_ BK209.out 1; have hfz39_2 := bf_ BK209.out 2; go_wp2
            repeat (go_quiet (fail); try go_wp2)
            go_ret; exact ⟨by first | rfl | (simp [errW_none, errW_some] <;> rfl) | (simp only [← hji38]; first | rfl | (simp [errW_none, errW_some] <;> rfl)) | (simp [*, errW_none, errW_some] <;> rfl), pb1_ HB.out GE209.out⟩
   ·
    rw [if_neg c6] at H; exact absurd H (by simp)
  ·
   rw [if_neg c5] at H; exact absurd H (by simp)
 ·
  replace c4 := Bool.eq_false_iff.mpr c4; subst c4; have H1 : (some 0) = some r := by rw [if_neg (show ¬ (false = true) by decide)] at H; exact H
  clear H; have H := H1; clear H1; obtain rfl := si_ H; go_enter Try.func23, Try.ntmps23
  go_wp2_with (first | ((with_reducible refine gate_dst (N := 2) rfl ?_); refine box_event ?hg (N := 2) ?hd (cs := #[.int .i64 a0_0, .int .i64 a0_1, .slice A0_2 l0_2.length c0_2]) (t := 35) ?hr ?_; (case hd => rfl); (case hg => rfl); (case hr => first | (go_simp; done) | (go_simp; rfl)); intro gb209 hg w40 hbox hb; have n0_ := am_ (sp_ (pb0_ HB.out) hb); have n1_ := am_ (hbox); have n2_ := am_ ((by rw [hg]; exact (bz_ (pb0_ HB.out)) : w.heap.size ≤ gb209)); have n3_ := am_ ((by rw [hg]; exact (bz_ (pb0_ HB.out)) : w.heap.size ≤ gb209)); clear HB; have HB := n0_; have BK209 := n1_; have GW209 := n2_; have GE209 := n3_; clear n0_ n1_ n2_ n3_; clear hb hbox hg; have hcz41_0 : w40.cell? ⟨gb209, 0, none⟩ = some (.int .i64 a0_0) := (bc_ BK209.out 0).trans rfl; have hcz41_1 : w40.cell? ⟨gb209, 1, none⟩ = some (.int .i64 a0_1) := (bc_ BK209.out 1).trans rfl; have hcz41_2 : w40.cell? ⟨gb209, 2, none⟩ = some (.slice A0_2 l0_2.length c0_2) := (bc_ BK209.out 2).trans rfl; have hfz41_0 := bf_ BK209.out 0; have hfz41_1 := bf_ BK209.out 1; have hfz41_2 := bf_ BK209.out 2) | (go_at_call 27; (with_reducible refine (replica_Node_valid.calls k a0_0 a0_1 _ _ l0_2 false _ ?side1 ?side2 A3.out).mono ?_); (case side1 => repeat (first | exact (Kd.C_below HR0_2.out HB.out) | (with_reducible refine Kd.C_alloc ?_ _) | (with_reducible refine Kd.C_drewN ?_ _) | (with_reducible refine Kd.C_drew ?_))); (case side2 => exact HC0_2.out); rintro e w42 ⟨rfl, hb⟩; have n0_ := am_ (bw_ (g := gb209) (o := .cells #[.int .i64 a0_0, .int .i64 a0_1, .slice A0_2 l0_2.length c0_2] 35 (0, 0)) (pk_ BK209.out) hb); have n1_ := am_ (sp_ (pb1_ HB.out GE209.out) hb); clear BK209; clear HB; have BK209 := n0_; have HB := n1_; clear n0_ n1_; (try clear hb); (try clear hb2); (try clear hk); (try clear hi)))
  repeat (go_quiet (first | ((with_reducible refine gate_dst (N := 2) rfl ?_); refine box_event ?hg (N := 2) ?hd (cs := #[.int .i64 a0_0, .int .i64 a0_1, .slice A0_2 l0_2.length c0_2]) (t := 35) ?hr ?_; (case hd => rfl); (case hg => rfl); (case hr => first | (go_simp; done) | (go_simp; rfl)); intro gb209 hg w40 hbox hb; have n0_ := am_ (sp_ (pb0_ HB.out) hb); have n1_ := am_ (hbox); have n2_ := am_ ((by rw [hg]; exact (bz_ (pb0_ HB.out)) : w.heap.size ≤ gb209)); have n3_ := am_ ((by rw [hg]; exact (bz_ (pb0_ HB.out)) : w.heap.size ≤ gb209)); clear HB; have HB := n0_; have BK209 := n1_; have GW209 := n2_; have GE209 := n3_; clear n0_ n1_ n2_ n3_; clear hb hbox hg; have hcz41_0 : w40.cell? ⟨gb209, 0, none⟩ = some (.int .i64 a0_0) := (bc_ BK209.out 0).trans rfl; have hcz41_1 : w40.cell? ⟨gb209, 1, none⟩ = some (.int .i64 a0_1) := (bc_ BK209.out 1).trans rfl; have hcz41_2 : w40.cell? ⟨gb209, 2, none⟩ = some (.slice A0_2 l0_2.length c0_2) := (bc_ BK209.out 2).trans rfl; have hfz41_0 := bf_ BK209.out 0; have hfz41_1 := bf_ BK209.out 1; have hfz41_2 := bf_ BK209.out 2) | (go_at_call 27; (with_reducible refine (replica_Node_valid.calls k a0_0 a0_1 _ _ l0_2 false _ ?side1 ?side2 A3.out).mono ?_); (case side1 => repeat (first | exact (Kd.C_below HR0_2.out HB.out) | (with_reducible refine Kd.C_alloc ?_ _) | (with_reducible refine Kd.C_drewN ?_ _) | (with_reducible refine Kd.C_drew ?_))); (case side2 => exact HC0_2.out); rintro e w42 ⟨rfl, hb⟩; have n0_ := am_ (bw_ (g := gb209) (o := .cells #[.int .i64 a0_0, .int .i64 a0_1, .slice A0_2 l0_2.length c0_2] 35 (0, 0)) (pk_ BK209.out) hb); have n1_ := am_ (sp_ (pb1_ HB.out GE209.out) hb); clear BK209; clear HB; have BK209 := n0_; have HB := n1_; clear n0_ n1_; (try clear hb); (try clear hb2); (try clear hk); (try clear hi))); try go_wp2_with (first | ((with_reducible refine gate_dst (N := 2) rfl ?_); refine box_event ?hg (N := 2) ?hd (cs := #[.int .i64 a0_0, .int .i64 a0_1, .slice A0_2 l0_2.length c0_2]) (t := 35) ?hr ?_; (case hd => rfl); (case hg => rfl); (case hr => first | (go_simp; done) | (go_simp; rfl)); intro gb209 hg w40 hbox hb; have n0_ := am_ (sp_ (pb0_ HB.out) hb); have n1_ := am_ (hbox); have n2_ := am_ ((by rw [hg]; exact (bz_ (pb0_ HB.out)) : w.heap.size ≤ gb209)); have n3_ := am_ ((by rw [hg]; exact (bz_ (pb0_ HB.out)) : w.heap.size ≤ gb209)); clear HB; have HB := n0_; have BK209 := n1_; have GW209 := n2_; have GE209 := n3_; clear n0_ n1_ n2_ n3_; clear hb hbox hg; have hcz41_0 : w40.cell? ⟨gb209, 0, none⟩ = some (.int .i64 a0_0) := (bc_ BK209.out 0).trans rfl; have hcz41_1 : w40.cell? ⟨gb209, 1, none⟩ = some (.int .i64 a0_1) := (bc_ BK209.out 1).trans rfl; have hcz41_2 : w40.cell? ⟨gb209, 2, none⟩ = some (.slice A0_2 l0_2.length c0_2) := (bc_ BK209.out 2).trans rfl; have hfz41_0 := bf_ BK209.out 0; have hfz41_1 := bf_ BK209.out 1; have hfz41_2 := bf_ BK209.out 2) | (go_at_call 27; (with_reducible refine (replica_Node_valid.calls k a0_0 a0_1 _ _ l0_2 false _ ?side1 ?side2 A3.out).mono ?_); (case side1 => repeat (first | exact (Kd.C_below HR0_2.out HB.out) | (with_reducible refine Kd.C_alloc ?_ _) | (with_reducible refine Kd.C_drewN ?_ _) | (with_reducible refine Kd.C_drew ?_))); (case side2 => exact HC0_2.out); rintro e w42 ⟨rfl, hb⟩; have n0_ := am_ (bw_ (g := gb209) (o := .cells #[.int .i64 a0_0, .int .i64 a0_1, .slice A0_2 l0_2.length c0_2] 35 (0, 0)) (pk_ BK209.out) hb); have n1_ := am_ (sp_ (pb1_ HB.out GE209.out) hb); clear BK209; clear HB; have BK209 := n0_; have HB := n1_; clear n0_ n1_; (try clear hb); (try clear hb2); (try clear hk); (try clear hi))))
  go_ret; exact ⟨by first | rfl | (simp [errW_none, errW_some] <;> rfl) | (simp [*, errW_none, errW_some] <;> rfl), pb1_ HB.out GE209.out⟩
end Go.Proofs.Ytbigcpjlahkggaa.Q
end
