import Derived.Test.YtbadelcnaeijkaaKQuotaSums0
import Derived.Test.YtbadelcnaeijkaaProg
import Derived.Below
import Derived.Deep.Draws
import Derived.Deep.AppendLies
import Derived.Maps.AppendAt
import Derived.OwnWalk
import Derived.Laws.BytesArg
import Derived.Laws.MakeOwn
import Derived.Laws.OwnMore
import Derived.Deep.OwnRows
import Derived.Tactics
import Derived.Lib.ConvBytes
import Derived.Laws.Slices
import Derived.WalkKit
import Derived.KernelRfl
import Derived.RowKit3
import Derived.Deep.LoopGhost
import Derived.Deep.QuietTactic
import Derived.BigQuiet
import Derived.WideLaws
import Derived.Deep.DeepCutAuto
import Derived.Deep.CutBlock
import Derived.Deep.RegionHeld3
import Derived.Laws.Rows
import Derived.Lib.AppendStr
import Derived.ArgAppend
import Derived.Laws.IdiomCopy
import Derived.OrdersHeld
import Derived.Laws.BitsLemmas
import Derived.RowKit
import Derived.Outline
import Derived.Lib.Hide
import Derived.Lib.Walk
import Derived.Lib.SliceRun
import Derived.Maps.Own
import Derived.Maps.Views
import Derived.Maps.OwnOps
import Derived.Sort.WalkA
import Derived.Sort.LotA
set_option linter.unusedVariables false
set_option linter.unusedSimpArgs false
section
namespace Go.Proofs.YtbadelcnaeijkaaW.PrintMore
open Go.RowKit Go.Proofs.YtbadelcnaeijkaaW.PrintWords Go.Proofs.YtbadelcnaeijkaaW.PrintLast
theorem pk_ {w w1 : World} {g : Nat} {o : Obj} (h : w.heap[g]? = some o) (k : w.heap[g]? = some o → w1.heap[g]? = some o := by intro h_; (with_reducible repeat (first | refine blk_drewN ?_ _ | refine blk_drew ?_ | refine blk_alloc ?_ _)); exact h_) : w1.heap[g]? = some o := k h
theorem pN_ {α : Type} {d : Kd α} {e base : Nat} {ok : Nat → Prop} {v : Value} {xs : List α} {w w1 : World} (h : Kd.N d e w base ok v xs) (k : Kd.N d e w base ok v xs → Kd.N d e w1 base ok v xs := by intro h_; (with_reducible repeat (first | apply Kd.N_alloc | apply Kd.N_drewN | apply Kd.N_drew)); exact h_) : Kd.N d e w1 base ok v xs := k h
theorem pV_ {α : Type} {d : Kd α} {e base : Nat} {ok : Nat → Prop} {v : Value} {xs : List α} {w w1 : World} (h : Kd.V d e w base ok v xs) (k : Kd.V d e w base ok v xs → Kd.V d e w1 base ok v xs := by intro h_; (with_reducible repeat (first | apply Kd.V_alloc | apply Kd.V_drewN | apply Kd.V_drew)); exact h_) : Kd.V d e w1 base ok v xs := k h
theorem pS_ {α : Type} {d : Kd α} {e base : Nat} {ok : Nat → Prop} {v : Value} {xs : List α} {w w1 : World} (h : Kd.S d e w base ok v xs) (k : Kd.S d e w base ok v xs → Kd.S d e w1 base ok v xs := by intro h_; (with_reducible repeat (first | apply Kd.S_alloc | apply Kd.S_drewN | apply Kd.S_drew)); exact h_) : Kd.S d e w1 base ok v xs := k h
theorem pR_ {α : Type} {d : Kd α} {e base : Nat} {ok : Nat → Prop} {v : Value} {xs : List α} {w w1 : World} (h : d.R e w base ok v xs) (k : d.R e w base ok v xs → d.R e w1 base ok v xs := by intro h_; (with_reducible repeat (first | apply Kd.R_alloc | apply Kd.R_drewN | apply Kd.R_drew)); exact h_) : d.R e w1 base ok v xs := k h
theorem pQ_ {α : Type} {d : Kd α} {e base : Nat} {ok : Nat → Prop} {v : Value} {xs : List α} {w w1 : World} (h : d.Q e w base ok v xs) (k : d.Q e w base ok v xs → d.Q e w1 base ok v xs := by intro h_; (with_reducible repeat (first | apply Kd.Q_alloc | apply Kd.Q_drewN | apply Kd.Q_drew)); exact h_) : d.Q e w1 base ok v xs := k h
theorem pb0_ {B : Nat} {a w w1 : World} (h : Below B a w) (k : Below B a w → Below B a w1 := by intro h_; repeat (first | (with_reducible first | exact h_ | apply below_alloc | apply pw_below_drewN | apply below_drew1) | exact h_)) : Below B a w1 := k h
theorem pb1_ {B : Nat} {a w w1 : World} {g0 : Nat} (h : Below B a w) (q0 : B ≤ g0) (k : Below B a w → B ≤ g0 → Below B a w1 := by intro h_ q0_; repeat (first | (with_reducible first | exact h_ | apply below_alloc | apply pw_below_drewN | apply below_drew1 | refine below_set ?_ q0_) | exact h_)) : Below B a w1 := k h q0
theorem pb2_ {B : Nat} {a w w1 : World} {g0 g1 : Nat} (h : Below B a w) (q0 : B ≤ g0) (q1 : B ≤ g1) (k : Below B a w → B ≤ g0 → B ≤ g1 → Below B a w1 := by intro h_ q0_ q1_; repeat (first | (with_reducible first | exact h_ | apply below_alloc | apply pw_below_drewN | apply below_drew1 | refine below_set ?_ q0_ | refine below_set ?_ q1_) | exact h_)) : Below B a w1 := k h q0 q1
theorem pb3_ {B : Nat} {a w w1 : World} {g0 g1 g2 : Nat} (h : Below B a w) (q0 : B ≤ g0) (q1 : B ≤ g1) (q2 : B ≤ g2) (k : Below B a w → B ≤ g0 → B ≤ g1 → B ≤ g2 → Below B a w1 := by intro h_ q0_ q1_ q2_; repeat (first | (with_reducible first | exact h_ | apply below_alloc | apply pw_below_drewN | apply below_drew1 | refine below_set ?_ q0_ | refine below_set ?_ q1_ | refine below_set ?_ q2_) | exact h_)) : Below B a w1 := k h q0 q1 q2
theorem pb4_ {B : Nat} {a w w1 : World} {g0 g1 g2 g3 : Nat} (h : Below B a w) (q0 : B ≤ g0) (q1 : B ≤ g1) (q2 : B ≤ g2) (q3 : B ≤ g3) (k : Below B a w → B ≤ g0 → B ≤ g1 → B ≤ g2 → B ≤ g3 → Below B a w1 := by intro h_ q0_ q1_ q2_ q3_; repeat (first | (with_reducible first | exact h_ | apply below_alloc | apply pw_below_drewN | apply below_drew1 | refine below_set ?_ q0_ | refine below_set ?_ q1_ | refine below_set ?_ q2_ | refine below_set ?_ q3_) | exact h_)) : Below B a w1 := k h q0 q1 q2 q3
theorem au_ {p : Prop} (h : p := by (try simp only [List.map_toArray, List.map_cons, List.map_nil]); first | done | rfl | (simp only [List.length_drop, List.length_take]; rfl)) : p := h
abbrev lt1_ := @List.setIfInBounds_toArray
abbrev lt2_ := @List.set_cons_zero
abbrev lt3_ := @List.set_cons_succ
abbrev bn_ := @blk_drewN
abbrev ba_ := @blk_alloc
abbrev bd_ := @blk_drew
abbrev bs_ := @below_set
abbrev bf_ := @blk_frozen
abbrev bc_ := @blk_cell
abbrev pb_ := @pw_below_drewN
abbrev b1_ := @below_drew1
abbrev bl_ := @below_alloc
abbrev vd_ := @Kd.V_drew
abbrev vn_ := @Kd.V_drewN
abbrev va_ := @Kd.V_alloc
abbrev bz_ := @below_size
abbrev am_ := @Aside0.mk
abbrev bk_ := @World.block_lt_of_cell?
abbrev ot_ := @of_decide_eq_true
abbrev bw_ := @blk_below
abbrev sp_ := @below_step
abbrev si_ := @Option.some.inj
abbrev de_ := @decide_eq_true
abbrev df_ := @decide_eq_false
abbrev vm_ := @Kd.V_mono
abbrev vb_ := @Kd.V_below
end Go.Proofs.YtbadelcnaeijkaaW.PrintMore
end
section
namespace Go.Proofs.Ytbadelcnaeijkaa.Q
open Go.RowKit Go.Proofs.YtbadelcnaeijkaaW.PrintWords Go.Proofs.YtbadelcnaeijkaaW.PrintLast Go.Proofs.YtbadelcnaeijkaaW.PrintMore
attribute [local go_sem] max2_int min2_int max_two min_two max_three min_three max_four min_four
attribute [local go_sem ↓] isSome_setCell
attribute [local go_sem] string_gtr
set_option linter.unusedVariables false
set_option linter.unusedSimpArgs false
def errW : Option Int → Value
 | none => .nilIface
 | some c => .iface 0 (.int .i64 c)
theorem errW_none : errW none = .nilIface := rfl
theorem errW_some (c : Int) : errW (some c) = .iface 0 (.int .i64 c) := rfl
theorem info3 : (Try.prog.info? 3).map (fun i => (i.zero, i.size, i.bytes)) = some (some (.int .i64 0), 1, 8) := by kernel_rfl
structure S145 where
 f0 : Int
 f1 : Int
 f2 : Int
 f3 : Int
def k145 : Kd S145 := Kd.iso (Kd.pair (Kd.int .i64) (Kd.pair (Kd.int .i64) (Kd.pair (Kd.int .i64) (Kd.int .i64)))) (fun x : S145 => (x.f0, x.f1, x.f2, x.f3))
structure S66 where
 f0 : Int
 f1 : Int
 f2 : ByteArray
 f3 : ByteArray
 f4 : ByteArray
 f5 : Int
 f6 : Int
 f7 : Int
 f8 : Int
 f9 : Int
 f10 : (List S145)
def z66 : S66 := ⟨(0 : Int), (0 : Int), (⟨#[]⟩ : ByteArray), (⟨#[]⟩ : ByteArray), (⟨#[]⟩ : ByteArray), (0 : Int), (0 : Int), (0 : Int), (0 : Int), (0 : Int), ([] : List S145)⟩
def k66 : Kd S66 := Kd.iso (Kd.pair (Kd.int .i64) (Kd.pair (Kd.int .i64) (Kd.pair Kd.string (Kd.pair Kd.string (Kd.pair Kd.string (Kd.pair (Kd.int .i64) (Kd.pair (Kd.int .u32) (Kd.pair (Kd.int .u64) (Kd.pair (Kd.int .i64) (Kd.pair (Kd.int .i64) (Kd.slice 145 k145))))))))))) (fun x : S66 => (x.f0, x.f1, x.f2, x.f3, x.f4, x.f5, x.f6, x.f7, x.f8, x.f9, x.f10))
theorem k66_open {w : World} {x : S66} {cs : List Value} (h : k66.K w x cs) : ∃ A10 c10, cs = [.int .i64 x.f0, .int .i64 x.f1, .string x.f2, .string x.f3, .string x.f4, .int .i64 x.f5, .int .u32 x.f6, .int .u64 x.f7, .int .i64 x.f8, .int .i64 x.f9, .slice A10 x.f10.length c10] ∧ x.f10.length ≤ c10 ∧ k145.C w A10 x.f10.length x.f10 := by
 obtain ⟨_, _, rfl, rfl, ⟨_, _, rfl, rfl, ⟨_, _, rfl, rfl, ⟨_, _, rfl, rfl, ⟨_, _, rfl, rfl, ⟨_, _, rfl, rfl, ⟨_, _, rfl, rfl, ⟨_, _, rfl, rfl, ⟨_, _, rfl, rfl, ⟨_, _, rfl, rfl, ⟨A10, c10, rfl, l10, g10⟩⟩⟩⟩⟩⟩⟩⟩⟩⟩⟩ := h; exact ⟨A10, c10, rfl, l10, g10⟩
theorem k66_mkM (w : World) (base : Nat) (ok : Nat → Prop) (x : S66) {v10 : Value} (g10 : k145.R 145 w base ok v10 x.f10) : k66.M w base ok x [.int .i64 x.f0, .int .i64 x.f1, .string x.f2, .string x.f3, .string x.f4, .int .i64 x.f5, .int .u32 x.f6, .int .u64 x.f7, .int .i64 x.f8, .int .i64 x.f9, v10] := ⟨[.int .i64 x.f0], [.int .i64 x.f1, .string x.f2, .string x.f3, .string x.f4, .int .i64 x.f5, .int .u32 x.f6, .int .u64 x.f7, .int .i64 x.f8, .int .i64 x.f9, v10], rfl, rfl, ⟨[.int .i64 x.f1], [.string x.f2, .string x.f3, .string x.f4, .int .i64 x.f5, .int .u32 x.f6, .int .u64 x.f7, .int .i64 x.f8, .int .i64 x.f9, v10], rfl, rfl, ⟨[.string x.f2], [.string x.f3, .string x.f4, .int .i64 x.f5, .int .u32 x.f6, .int .u64 x.f7, .int .i64 x.f8, .int .i64 x.f9, v10], rfl, rfl, ⟨[.string x.f3], [.string x.f4, .int .i64 x.f5, .int .u32 x.f6, .int .u64 x.f7, .int .i64 x.f8, .int .i64 x.f9, v10], rfl, rfl, ⟨[.string x.f4], [.int .i64 x.f5, .int .u32 x.f6, .int .u64 x.f7, .int .i64 x.f8, .int .i64 x.f9, v10], rfl, rfl, ⟨[.int .i64 x.f5], [.int .u32 x.f6, .int .u64 x.f7, .int .i64 x.f8, .int .i64 x.f9, v10], rfl, rfl, ⟨[.int .u32 x.f6], [.int .u64 x.f7, .int .i64 x.f8, .int .i64 x.f9, v10], rfl, rfl, ⟨[.int .u64 x.f7], [.int .i64 x.f8, .int .i64 x.f9, v10], rfl, rfl, ⟨[.int .i64 x.f8], [.int .i64 x.f9, v10], rfl, rfl, ⟨[.int .i64 x.f9], [v10], rfl, rfl, ⟨v10, rfl, g10⟩⟩⟩⟩⟩⟩⟩⟩⟩⟩⟩
def rd_T66 (xs : List S66) (i : Int) : S66 := xs.getD i.toNat z66
theorem at_T66 {w : World} {A : Option Addr} {n : Nat} {xs : List S66} (h : Kd.C k66 w A n xs) (i : Int) (h0 : 0 ≤ i) (h1 : i < n) : ∃ ad A10 c10, A = some ad ∧ w.cell? (ad.add (i.toNat * 11)) = some (.int .i64 (rd_T66 xs i).f0) ∧ w.cell? ⟨(ad.add (i.toNat * 11)).block, (ad.add (i.toNat * 11)).off + 1, none⟩ = some (.int .i64 (rd_T66 xs i).f1) ∧ w.cell? ⟨(ad.add (i.toNat * 11)).block, (ad.add (i.toNat * 11)).off + 2, none⟩ = some (.string (rd_T66 xs i).f2) ∧ w.cell? ⟨(ad.add (i.toNat * 11)).block, (ad.add (i.toNat * 11)).off + 3, none⟩ = some (.string (rd_T66 xs i).f3) ∧ w.cell? ⟨(ad.add (i.toNat * 11)).block, (ad.add (i.toNat * 11)).off + 4, none⟩ = some (.string (rd_T66 xs i).f4) ∧ w.cell? ⟨(ad.add (i.toNat * 11)).block, (ad.add (i.toNat * 11)).off + 5, none⟩ = some (.int .i64 (rd_T66 xs i).f5) ∧ w.cell? ⟨(ad.add (i.toNat * 11)).block, (ad.add (i.toNat * 11)).off + 6, none⟩ = some (.int .u32 (rd_T66 xs i).f6) ∧ w.cell? ⟨(ad.add (i.toNat * 11)).block, (ad.add (i.toNat * 11)).off + 7, none⟩ = some (.int .u64 (rd_T66 xs i).f7) ∧ w.cell? ⟨(ad.add (i.toNat * 11)).block, (ad.add (i.toNat * 11)).off + 8, none⟩ = some (.int .i64 (rd_T66 xs i).f8) ∧ w.cell? ⟨(ad.add (i.toNat * 11)).block, (ad.add (i.toNat * 11)).off + 9, none⟩ = some (.int .i64 (rd_T66 xs i).f9) ∧ w.cell? ⟨(ad.add (i.toNat * 11)).block, (ad.add (i.toNat * 11)).off + 10, none⟩ = some (.slice A10 (rd_T66 xs i).f10.length c10) ∧ (rd_T66 xs i).f10.length ≤ c10 ∧ k145.C w A10 (rd_T66 xs i).f10.length (rd_T66 xs i).f10 := by
 obtain ⟨ad, c, e, _, hK, hc0⟩ := Kd.C_get h z66 i h0 h1; have hc : ∀ j u, c[j]? = some u → w.cell? (ad.add (i.toNat * 11 + j)) = some u := hc0; obtain ⟨A10, c10, rfl, l10, g10⟩ := k66_open hK; exact ⟨ad, A10, c10, e, hc 0 _ rfl, by rw [← add_field _ _ 1 (by omega)]; exact hc 1 _ rfl, by rw [← add_field _ _ 2 (by omega)]; exact hc 2 _ rfl, by rw [← add_field _ _ 3 (by omega)]; exact hc 3 _ rfl, by rw [← add_field _ _ 4 (by omega)]; exact hc 4 _ rfl, by rw [← add_field _ _ 5 (by omega)]; exact hc 5 _ rfl, by rw [← add_field _ _ 6 (by omega)]; exact hc 6 _ rfl, by rw [← add_field _ _ 7 (by omega)]; exact hc 7 _ rfl, by rw [← add_field _ _ 8 (by omega)]; exact hc 8 _ rfl, by rw [← add_field _ _ 9 (by omega)]; exact hc 9 _ rfl, by rw [← add_field _ _ 10 (by omega)]; exact hc 10 _ rfl, l10, g10⟩
structure S148 where
 f0 : Int
 f1 : Int
 f2 : Int
 f3 : Int
 f4 : Int
def k148 : Kd S148 := Kd.iso (Kd.pair (Kd.int .i64) (Kd.pair (Kd.int .i64) (Kd.pair (Kd.int .i64) (Kd.pair (Kd.int .i64) (Kd.int .u32))))) (fun x : S148 => (x.f0, x.f1, x.f2, x.f3, x.f4))
structure S150 where
 f0 : ByteArray
 f1 : Int
 f2 : Int
def k150 : Kd S150 := Kd.iso (Kd.pair Kd.string (Kd.pair (Kd.int .i64) (Kd.int .i64))) (fun x : S150 => (x.f0, x.f1, x.f2))
structure S133 where
 f0 : Int
 f1 : Int
 f2 : Int
 f3 : Int
 f4 : Int
 f5 : Int
 f6 : Int
 f7 : Int
 f8 : Int
 f9 : (List S148)
 f10 : (List S150)
def k133 : Kd S133 := Kd.iso (Kd.pair (Kd.int .i64) (Kd.pair (Kd.int .i64) (Kd.pair (Kd.int .i64) (Kd.pair (Kd.int .i64) (Kd.pair (Kd.int .i64) (Kd.pair (Kd.int .i64) (Kd.pair (Kd.int .i64) (Kd.pair (Kd.int .i64) (Kd.pair (Kd.int .u32) (Kd.pair (Kd.slice 148 k148) (Kd.slice 150 k150))))))))))) (fun x : S133 => (x.f0, x.f1, x.f2, x.f3, x.f4, x.f5, x.f6, x.f7, x.f8, x.f9, x.f10))
structure S135 where
 f0 : Int
 f1 : Int
 f2 : Int
 f3 : (List Int)
def k135 : Kd S135 := Kd.iso (Kd.pair (Kd.int .i64) (Kd.pair (Kd.int .i64) (Kd.pair (Kd.int .i64) (Kd.slice 3 (Kd.int .i64))))) (fun x : S135 => (x.f0, x.f1, x.f2, x.f3))
structure S137 where
 f0 : ByteArray
 f1 : ByteArray
 f2 : Int
 f3 : Int
 f4 : Int
def k137 : Kd S137 := Kd.iso (Kd.pair Kd.string (Kd.pair Kd.string (Kd.pair (Kd.int .i64) (Kd.pair (Kd.int .i64) (Kd.int .i64))))) (fun x : S137 => (x.f0, x.f1, x.f2, x.f3, x.f4))
structure S139 where
 f0 : ByteArray
 f1 : ByteArray
 f2 : Int
 f3 : Int
 f4 : Int
 f5 : Int
def k139 : Kd S139 := Kd.iso (Kd.pair Kd.string (Kd.pair Kd.string (Kd.pair (Kd.int .i64) (Kd.pair (Kd.int .i64) (Kd.pair (Kd.int .i64) (Kd.int .i64)))))) (fun x : S139 => (x.f0, x.f1, x.f2, x.f3, x.f4, x.f5))
structure S141 where
 f0 : ByteArray
 f1 : ByteArray
def k141 : Kd S141 := Kd.iso (Kd.pair Kd.string Kd.string) (fun x : S141 => (x.f0, x.f1))
structure S55 where
 f0 : ByteArray
 f1 : Int
def z55 : S55 := ⟨(⟨#[]⟩ : ByteArray), (0 : Int)⟩
def k55 : Kd S55 := Kd.iso (Kd.pair Kd.string (Kd.int .i64)) (fun x : S55 => (x.f0, x.f1))
theorem k55_open {w : World} {x : S55} {cs : List Value} (h : k55.K w x cs) : cs = [.string x.f0, .int .i64 x.f1] := by
 obtain ⟨_, _, rfl, rfl, rfl⟩ := h; exact rfl
theorem k55_mkM (w : World) (base : Nat) (ok : Nat → Prop) (x : S55)  : k55.M w base ok x [.string x.f0, .int .i64 x.f1] := ⟨[.string x.f0], [.int .i64 x.f1], rfl, rfl, rfl⟩
def rd_T55 (xs : List S55) (i : Int) : S55 := xs.getD i.toNat z55
theorem at_T55 {w : World} {A : Option Addr} {n : Nat} {xs : List S55} (h : Kd.C k55 w A n xs) (i : Int) (h0 : 0 ≤ i) (h1 : i < n) : ∃ ad , A = some ad ∧ w.cell? (ad.add (i.toNat * 2)) = some (.string (rd_T55 xs i).f0) ∧ w.cell? ⟨(ad.add (i.toNat * 2)).block, (ad.add (i.toNat * 2)).off + 1, none⟩ = some (.int .i64 (rd_T55 xs i).f1) := by
 obtain ⟨ad, c, e, _, hK, hc0⟩ := Kd.C_get h z55 i h0 h1; have hc : ∀ j u, c[j]? = some u → w.cell? (ad.add (i.toNat * 2 + j)) = some u := hc0; obtain rfl := k55_open hK; exact ⟨ad, e, hc 0 _ rfl, by rw [← add_field _ _ 1 (by omega)]; exact hc 1 _ rfl⟩
structure S143 where
 f0 : Int
 f1 : Int
 f2 : ByteArray
 f3 : Int
 f4 : Int
 f5 : (List S150)
def k143 : Kd S143 := Kd.iso (Kd.pair (Kd.int .i64) (Kd.pair (Kd.int .i64) (Kd.pair Kd.string (Kd.pair (Kd.int .u64) (Kd.pair (Kd.int .i64) (Kd.slice 150 k150)))))) (fun x : S143 => (x.f0, x.f1, x.f2, x.f3, x.f4, x.f5))
end Go.Proofs.Ytbadelcnaeijkaa.Q
end
section
namespace Go.Proofs.Ytbadelcnaeijkaa.Q
open Go.RowKit Go.Proofs.YtbadelcnaeijkaaW.PrintWords Go.Proofs.YtbadelcnaeijkaaW.PrintLast Go.Proofs.YtbadelcnaeijkaaW.PrintMore
attribute [local go_sem] max2_int min2_int max_two min_two max_three min_three max_four min_four
attribute [local go_sem ↓] isSome_setCell
attribute [local go_sem] string_gtr
set_option linter.unusedVariables false
set_option linter.unusedSimpArgs false
def RowAt (W : World) (b n t : Nat) (f : Nat → Value) : Prop := ∃ cs, W.heap[b]? = some (.cells cs t (0, 0)) ∧ cs.size = n ∧ ∀ j, j < n → cs[j]? = some (f j)
section
variable {W W' : World} {b n t : Nat} {f g : Nat → Value}
theorem RowAt.cell (h : RowAt W b n t f) (j : Nat) (hj : j < n) : W.cell? ⟨b, j, none⟩ = some (f j) := by
  obtain ⟨cs, h1, h2, h3⟩ := h
  unfold World.cell?
  rw [h1]
  exact h3 j hj
theorem RowAt.frozen (h : RowAt W b n t f) (j : Nat) : W.frozen? ⟨b, j, none⟩ = false := by
  obtain ⟨cs, h1, h2, h3⟩ := h
  unfold World.frozen?
  rw [h1]
  simp
theorem RowAt.congr (h : RowAt W b n t f) (e : ∀ j, j < n → f j = g j) : RowAt W b n t g := by
  obtain ⟨cs, h1, h2, h3⟩ := h
  exact ⟨cs, h1, h2, fun j hj => by rw [h3 j hj, e j hj]⟩
theorem RowAt.heap (h : RowAt W b n t f) (e : W'.heap[b]? = W.heap[b]?) : RowAt W' b n t f := by
  obtain ⟨cs, h1, h2, h3⟩ := h
  exact ⟨cs, e.trans h1, h2, h3⟩
theorem RowAt.set (h : RowAt W b n t f) (i : Nat) (v : Value) : RowAt (W.setCell ⟨b, i, none⟩ v) b n t (fun j => if j = i then v else f j) := by
  obtain ⟨cs, h1, h2, h3⟩ := h
  refine ⟨cs.setIfInBounds i v, ?_, by rw [Array.size_setIfInBounds, h2], fun j hj => ?_⟩
  · show (W.heap.modify b _)[b]? = _
    rw [Array.getElem?_modify, if_pos rfl, h1]
    rfl
  · rw [Array.getElem?_setIfInBounds]
    by_cases e : i = j
    · subst e
      rw [if_pos rfl, if_pos (by omega)]
      show some v = some (if i = i then v else f i)
      rw [if_pos rfl]
    · rw [if_neg e]
      show _ = some (if j = i then v else f j)
      rw [if_neg (fun x => e x.symm)]
      exact h3 j hj
theorem RowAt.other (h : RowAt W b n t f) (p : Nat) (i : Nat) (v : Value) (hp : b ≠ p) : RowAt (W.setCell ⟨p, i, none⟩ v) b n t f := h.heap (Below.heap_setCell W ⟨p, i, none⟩ v b hp)
theorem RowAt.draw (h : RowAt W b n t f) (m : Nat) : RowAt (W.drewN m) b n t f := h.heap rfl
theorem RowAt.alloc (h : RowAt W b n t f) (o : Obj) : RowAt (W.alloc o) b n t f := h.heap (Below.heap_alloc W o b (by obtain ⟨cs, h1, _⟩ := h; exact (Array.getElem?_eq_some_iff.1 h1).1))
end
set_option maxRecDepth 100000 in
theorem wp_make {W : World} {ops : Array Oper} {rest : List Oper} {o : Oper} {a : Act} {Q : Exit → Act → World → Prop}
    (hg : o.guard = none) (x : Operand) (t e : Nat) (hop : o.op = .makeSlice t x x) (n : Nat) (hx : a.eval x = .int .i64 n) (hn : n ≤ 1000000000)
    (ht : Try.prog.underlying t = some (.slice e)) (z : Value) (hinfo : (Try.prog.info? e).map (fun i => (i.zero, i.size, i.bytes)) = some (some z, 1, 8)) (hz : z.cells = #[z])
    (h : ∀ s W', s = W.heap.size → RowAt W' s n e (fun _ => z) → W'.heap.size = s + 1 → Below s W W' → wpList Try.prog ops Q rest (a.put o.dst (.slice (some ⟨s, 0, none⟩) n n)) W') :
    wpList Try.prog ops Q (o :: rest) a W := by
  obtain ⟨i0, hi, hzz⟩ := Option.map_eq_some_iff.1 hinfo
  simp only [Prod.mk.injEq] at hzz
  obtain ⟨hz0, hz1, hz2⟩ := hzz
  have hr := run_make (P := Try.prog) W t e i0 z ht hi hz0 .i64 .i64 (n : Int) (n : Int) (by omega) (by omega) (by rw [hz2]; omega) (by omega)
  simp only [Int.toNat_natCast] at hr
  rw [hz1, Nat.mul_one] at hr
  refine Kd.event_run hg (by simp [execOp, hop, hx, hr]) (h _ _ rfl ⟨madeCells z.cells n, blk_new W _, ?_, ?_⟩ ?_ (below_alloc (Below.refl _ _) _))
  · simp [madeCells]
  · intro j hj
    simp [madeCells, hz, hj, Nat.mod_one]
  · show (W.heap.push _).size = _
    rw [Array.size_push]
end Go.Proofs.Ytbadelcnaeijkaa.Q
end
section
namespace Go.Proofs.Ytbadelcnaeijkaa.Q
open Go.RowKit Go.Proofs.YtbadelcnaeijkaaW.PrintWords Go.Proofs.YtbadelcnaeijkaaW.PrintLast Go.Proofs.YtbadelcnaeijkaaW.PrintMore
attribute [local go_sem] max2_int min2_int max_two min_two max_three min_three max_four min_four
attribute [local go_sem ↓] isSome_setCell
attribute [local go_sem] string_gtr
set_option linter.unusedVariables false
set_option linter.unusedSimpArgs false
def Side (w W : World) (blk : Nat) : Prop := ∀ k, k ≠ blk → W.heap[k]? = w.heap[k]?
def InR (N : Int) (d : Array Int) : Prop := ∀ t, t < d.size → 0 ≤ d[t]! ∧ d[t]! < N
def CmpOk (gb : Nat) (cv : Int → Int → Int) (N : Int) (w : World) (blk : Nat) : Prop :=
  ∀ (x y : Int), 0 ≤ x ∧ x < N → 0 ≤ y ∧ y < N → ∀ W, Side w W blk → Calls Try.prog 35 #[.int .i64 x, .int .i64 y, .pointer (some ⟨gb, 0, none⟩)] W fun e w' => e = .returned (.int .i64 (cv x y)) ∧ ∃ m, w' = W.drewN m
def ltOf (cv : Int → Int → Int) (x y : Int) : Bool := decide (cv x y < 0)
theorem heap_mapBlock_other (w : World) (blk k : Nat) (f : Array Value → Array Value) (h : k ≠ blk) : (Sort.mapBlock w blk f).heap[k]? = w.heap[k]? := by
  show (w.heap.modify blk (Sort.onCells f))[k]? = _
  rw [Array.getElem?_modify, if_neg (Ne.symm h)]
theorem side_putRow (w : World) (n blk off : Nat) (d : Array Int) : Side w (Sort.putRow (Value.int .i64) (Sort.ahead w n) blk off d) blk := fun k hk => heap_mapBlock_other _ _ _ _ hk
theorem InR.swp {N : Int} {d : Array Int} (h : InR N d) (i j : Nat) (hi : i < d.size) (hj : j < d.size) : InR N (Sort.swp d i j) := by
  intro t ht
  rw [Sort.size_swp] at ht
  rw [Sort.swp_get d hi hj t]
  split
  · exact h _ hi
  · split
    · exact h _ hj
    · exact h t ht
set_option maxHeartbeats 8000000 in
set_option maxRecDepth 100000 in
theorem ins_walk (gb : Nat) (cv : Int → Int → Int) (N : Int) (blk off cap a b : Nat) (d : Array Int) (w : World) (hH : Sort.Holds (Value.int .i64) w blk off d) (hab : a ≤ b) (hb : b ≤ d.size) (hsz : d.size < 4611686018427387904)
    (hR : InR N d) (hC : CmpOk gb cv N w blk) :
    Calls Try.prog 51 #[.slice (some ⟨blk, off, none⟩) d.size cap, .int .i64 a, .int .i64 b, .func (.func 35) #[] #[.pointer (some ⟨gb, 0, none⟩)]] w fun e w' =>
      e = .returned (.tuple #[]) ∧ ∃ n, w' = Sort.putRow (Value.int .i64) (Sort.ahead w n) blk off (Sort.insertionSort (ltOf cv) d a b) := by
  have HC := Aside0.mk hC
  have HR := Aside0.mk hR
  clear hC hR
  go_enter Try.func51, Try.ntmps51
  go_wp2
  go_loopw [8] (fun vi wr => ∃ (i n : Nat) (dk : Array Int), vi = .int .i64 i ∧ a < i ∧ i ≤ b + 1 ∧ dk.size = d.size ∧ wr = Sort.putRow (Value.int .i64) (Sort.ahead w n) blk off dk ∧
      Sort.insOuter (ltOf cv) a b i dk = Sort.insOuter (ltOf cv) a b (a + 1) d ∧ InR N dk) (fun vi _ => b + 1 - (Proofs.intOf vi).toNat)
  case atStart => exact ⟨a + 1, 0, d, by go_num, by omega, by omega, rfl, (Sort.putRow_self _ _ _ _ _ hH).symm, rfl, HR.out⟩
  case round =>
    obtain ⟨i, n, dk, rfl, hai, hib, hsk, hwr, hO, hRk⟩ := hrel
    have HO : Hid (Sort.insOuter (ltOf cv) a b i dk = Sort.insOuter (ltOf cv) a b (a + 1) d) := hO
    have HRK := Aside0.mk hRk
    clear hO hRk
    go_wp2
    · have hlt0 : i < b := by assumption
      have HLT := Aside0.mk hlt0
      go_loopw [9] (fun vj wr2 => ∃ (j m : Nat) (dj : Array Int), vj = .int .i64 j ∧ a ≤ j ∧ j ≤ i ∧ dj.size = d.size ∧ wr2 = Sort.putRow (Value.int .i64) (Sort.ahead w m) blk off dj ∧
          Sort.insInner (ltOf cv) a j dj = Sort.insInner (ltOf cv) a i dk ∧ InR N dj) (fun vj _ => (Proofs.intOf vj).toNat)
      case atStart => exact ⟨i, n, dk, rfl, by omega, Nat.le_refl _, hsk, rfl, rfl, HRK.out⟩
      case round =>
        obtain ⟨j, m, dj, rfl, haj, hji, hsj, hw2, hI, hRj⟩ := hrel
        have hlt : i < b := by assumption
        obtain ⟨G, hG⟩ : ∃ G : Nat → Int, ∀ t, G t = dj[t]! := ⟨fun t => dj[t]!, fun _ => rfl⟩
        have hcw : ∀ t, t < d.size → wr.cell? ⟨blk, off + t, none⟩ = some (.int .i64 (G t)) := fun t ht => by
          rw [hw2, hG]; exact Sort.cell?_putRow _ _ _ _ d dj (Sort.holds_ahead _ _ _ _ _ _ hH) hsj t (by omega)
        have hfw : ∀ t, t < d.size → wr.frozen? ⟨blk, off + t, none⟩ = false := fun t ht => by
          rw [hw2, Sort.frozen?_putRow]; exact ((Sort.holds_ahead _ _ m _ _ _ hH) t ht).2
        have HRG : Aside0 (∀ t, t < d.size → 0 ≤ G t ∧ G t < N) := ⟨fun t ht => by rw [hG]; exact hRj t (by omega)⟩
        have HRJ := Aside0.mk hRj
        have HSD : Aside0 (Side w wr blk) := ⟨by rw [hw2]; exact side_putRow _ _ _ _ _⟩
        have HW : Hid (wr = Sort.putRow (Value.int .i64) (Sort.ahead w m) blk off dj) := hw2
        have HG : Hid (∀ t, G t = dj[t]!) := hG
        have HI : Hid (Sort.insInner (ltOf cv) a j dj = Sort.insInner (ltOf cv) a i dk) := hI
        have HH := Aside0.mk hH
        clear hw2 hG hI hH hRj
        have out : (j ≤ a ∨ ltOf cv dj[j]! dj[j - 1]! = false) → ∀ q, ∃ i' n' dk', Value.int .i64 ((i : Int) + 1) = .int .i64 (i' : Nat) ∧ a < i' ∧ i' ≤ b + 1 ∧ dk'.size = d.size ∧
            wr.drewN q = Sort.putRow (Value.int .i64) (Sort.ahead w n') blk off dk' ∧ Sort.insOuter (ltOf cv) a b i' dk' = Sort.insOuter (ltOf cv) a b (a + 1) d ∧ InR N dk' := fun hs q =>
          ⟨i + 1, m + q, dj, by go_num, by omega, by omega, hsj, by rw [HW.out]; exact Proofs.putRow_drewN _ _ _ _ _ _ _,
            by rw [← HO.out, Proofs.insOuter_go _ _ _ _ _ hlt, ← HI.out, Proofs.insInner_stop _ _ _ _ hs], HRJ.out⟩
        have OUT : Hid _ := out
        clear out
        go_wp2
        by_cases hja : a < j
        · have HQ := fun n => Aside0.mk (HC.out (G j) (G (j - 1)) (HRG.out _ (by omega)) (HRG.out _ (by omega)) (wr.drewN n) HSD.out)
          go_quiet (first | (go_at_call 35; refine Calls.quiet_of (HQ _).out))
          go_wp2
          · have hl : cv (G j) (G (j - 1)) < 0 := by assumption
            have HL := Aside0.mk (show ltOf cv (G j) (G (j - 1)) = true from decide_eq_true hl)
            go_region
            all_goals go_wp2
            go_roundw
            case rel =>
              refine ⟨j - 1, m + (nq + 1), Sort.swp dj j (j - 1), by congr 1; omega, by omega, by omega, by rw [Sort.size_swp]; exact hsj, ?_, ?_, HRJ.out.swp _ _ (by omega) (by omega)⟩
              · rw [HW.out, HG.out, HG.out]
                exact Proofs.swap_worldA _ w m (nq + 1) blk off dj j (j - 1) (by omega) (by omega)
              · rw [← HI.out, Proofs.insInner_go (ltOf cv) a j dj hja (by rw [← HG.out, ← HG.out]; exact HL.out)]
            case measure => simp [Proofs.intOf]; omega
          · have HL := Aside0.mk (show ltOf cv (G j) (G (j - 1)) = false from decide_eq_false (by omega))
            go_roundw
            case rel => exact OUT.out (Or.inr (by rw [← HG.out, ← HG.out]; exact HL.out)) nq
            case measure => simp [Proofs.intOf]; omega
        · go_quiet (fail)
          go_wp2
          go_roundw
          case rel => exact OUT.out (Or.inl (by omega)) nq
          case measure => simp [Proofs.intOf]; omega
    ·
      have hge : ¬ i < b := by assumption
      go_end0
      exact ⟨rfl, n, by unfold Sort.insertionSort; rw [← HO.out, Proofs.insOuter_stop _ _ _ _ _ hge]⟩
def IsSw (d : Array Int) (a b n : Nat) (d' : Array Int) : Prop := d'.size = d.size ∧ ∀ k, k < d.size → d'[k]! = if a ≤ k ∧ k < a + n then d[b + (k - a)]! else if b ≤ k ∧ k < b + n then d[a + (k - b)]! else d[k]!
theorem IsSw.zero (d : Array Int) (a b : Nat) : IsSw d a b 0 d := ⟨rfl, fun k _ => by rw [if_neg (by omega), if_neg (by omega)]⟩
theorem IsSw.step {d d' : Array Int} {a b n i : Nat} (h : IsSw d a b i d') (hi : i < n) (hab : a + n ≤ b) (hb : b + n ≤ d.size) : IsSw d a b (i + 1) (Sort.swp d' (a + i) (b + i)) := by
  refine ⟨by rw [Sort.size_swp, h.1], fun k hk => ?_⟩
  rw [Sort.swp_get d' (by have := h.1; omega) (by have := h.1; omega), h.2 _ (by omega), h.2 _ (by omega), h.2 _ hk]
  by_cases e1 : k = b + i
  · subst e1
    rw [if_pos rfl, if_neg (by omega), if_neg (by omega), if_neg (by omega), if_pos (by omega)]
    congr 1
    omega
  · rw [if_neg e1]
    by_cases e2 : k = a + i
    · subst e2
      rw [if_pos rfl, if_neg (by omega), if_neg (by omega), if_pos (by omega)]
      congr 1
      omega
    · rw [if_neg e2]
      by_cases c1 : a ≤ k ∧ k < a + i
      · rw [if_pos c1, if_pos (by omega)]
      · by_cases c2 : b ≤ k ∧ k < b + i
        · rw [if_neg c1, if_pos c2, if_neg (show ¬ (a ≤ k ∧ k < a + (i + 1)) by omega), if_pos (show b ≤ k ∧ k < b + (i + 1) by omega)]
        · rw [if_neg c1, if_neg c2, if_neg (show ¬ (a ≤ k ∧ k < a + (i + 1)) by omega), if_neg (show ¬ (b ≤ k ∧ k < b + (i + 1)) by omega)]
set_option maxHeartbeats 8000000 in
set_option maxRecDepth 100000 in
theorem swr_walk (fv : Value) (blk off cap a b n : Nat) (d : Array Int) (w : World) (hH : Sort.Holds (Value.int .i64) w blk off d) (hab : a + n ≤ b) (hb : b + n ≤ d.size) (hsz : d.size < 4611686018427387904) :
    Calls Try.prog 67 #[.slice (some ⟨blk, off, none⟩) d.size cap, .int .i64 a, .int .i64 b, .int .i64 n, fv] w fun e w' =>
      e = .returned (.tuple #[]) ∧ ∃ m d', w' = Sort.putRow (Value.int .i64) (Sort.ahead w m) blk off d' ∧ IsSw d a b n d' ∧ Sort.PermIn a (b + n) d d' := by
  go_enter Try.func67, Try.ntmps67
  go_wp2
  go_loopw [10] (fun vi wr => ∃ (i m : Nat) (dk : Array Int), vi = .int .i64 i ∧ i ≤ n ∧ wr = Sort.putRow (Value.int .i64) (Sort.ahead w m) blk off dk ∧ IsSw d a b i dk ∧ Sort.PermIn a (b + n) d dk) (fun vi _ => n - (Proofs.intOf vi).toNat)
  case atStart => exact ⟨0, 0, d, by go_num, by omega, (Sort.putRow_self _ _ _ _ _ hH).symm, IsSw.zero d a b, Sort.permIn_refl _ _ _⟩
  case round =>
    obtain ⟨i, m, dj, rfl, hin, hw2, hS, hP⟩ := hrel
    have HP := Aside0.mk hP
    clear hP
    obtain ⟨G, hG⟩ : ∃ G : Nat → Int, ∀ t, G t = dj[t]! := ⟨fun t => dj[t]!, fun _ => rfl⟩
    have hcw : ∀ t, t < d.size → wr.cell? ⟨blk, off + t, none⟩ = some (.int .i64 (G t)) := fun t ht => by
      rw [hw2, hG]; exact Sort.cell?_putRow _ _ _ _ d dj (Sort.holds_ahead _ _ _ _ _ _ hH) hS.1 t (by have := hS.1; omega)
    have hfw : ∀ t, t < d.size → wr.frozen? ⟨blk, off + t, none⟩ = false := fun t ht => by
      rw [hw2, Sort.frozen?_putRow]; exact ((Sort.holds_ahead _ _ m _ _ _ hH) t ht).2
    have HW : Hid (wr = Sort.putRow (Value.int .i64) (Sort.ahead w m) blk off dj) := hw2
    have HG : Hid (∀ t, G t = dj[t]!) := hG
    have HS := Aside0.mk hS
    clear hw2 hG hH hS
    go_wp2
    · go_region
      all_goals go_wp2
      go_roundw
      case rel =>
        refine ⟨i + 1, m + 1, Sort.swp dj (a + i) (b + i), by go_num, by omega, ?_, HS.out.step (by omega) hab hb, Sort.permIn_trans _ _ _ _ _ HP.out (Sort.swp_permIn _ _ _ _ _ (by omega) (by omega) (by omega) (by omega) (by have := HS.out.1; omega))⟩
        rw [HW.out, HG.out, HG.out]
        exact Proofs.swap_worldA _ w m 1 blk off dj (a + i) (b + i) (by have := HS.out.1; omega) (by have := HS.out.1; omega)
      case measure => simp [Proofs.intOf]; omega
    · go_end0
      have e : i = n := by omega
      subst e
      exact ⟨rfl, m, dj, HW.out, HS.out, HP.out⟩
def AtRow (w : World) (blk off : Nat) (W : World) (d : Array Int) : Prop := ∃ n, W = Sort.putRow (Value.int .i64) (Sort.ahead w n) blk off d
theorem AtRow.self {w : World} {blk off : Nat} {d : Array Int} (h : Sort.Holds (Value.int .i64) w blk off d) : AtRow w blk off w d := ⟨0, (Sort.putRow_self _ _ _ _ _ h).symm⟩
theorem AtRow.holds {w W : World} {blk off : Nat} {d0 d : Array Int} (h : AtRow w blk off W d) (h0 : Sort.Holds (Value.int .i64) w blk off d0) (hs : d.size = d0.size) : Sort.Holds (Value.int .i64) W blk off d := by
  obtain ⟨n, rfl⟩ := h
  exact Sort.holds_putRow _ _ _ _ d0 _ (Sort.holds_ahead _ _ _ _ _ _ h0) hs
theorem AtRow.trans {w W W' : World} {blk off : Nat} {d d' : Array Int} (h : AtRow w blk off W d) (h' : AtRow W blk off W' d') (hs : d'.size = d.size) : AtRow w blk off W' d' := by
  obtain ⟨n, rfl⟩ := h
  obtain ⟨m, rfl⟩ := h'
  exact ⟨n + m, Sort.putRow_ahead_putRow _ _ _ _ _ _ _ _ hs⟩
theorem AtRow.drewN {w W : World} {blk off : Nat} {d : Array Int} (h : AtRow w blk off W d) (q : Nat) : AtRow w blk off (W.drewN q) d := by
  obtain ⟨n, rfl⟩ := h
  exact ⟨n + q, Proofs.putRow_drewN _ _ _ _ _ _ _⟩
theorem AtRow.side {w W : World} {blk off : Nat} {d : Array Int} (h : AtRow w blk off W d) : Side w W blk := by
  obtain ⟨n, rfl⟩ := h
  exact side_putRow _ _ _ _ _
def IsRot (d : Array Int) (a m b : Nat) (d' : Array Int) : Prop :=
  d'.size = d.size ∧ (∀ t, t < b - m → d'[a + t]! = d[m + t]!) ∧ (∀ t, t < m - a → d'[a + (b - m) + t]! = d[a + t]!) ∧ ∀ k, k < d.size → (k < a ∨ b ≤ k) → d'[k]! = d[k]!
theorem IsSw.fst {d d' : Array Int} {a b n : Nat} (h : IsSw d a b n d') (hb : a + n ≤ b ∧ b + n ≤ d.size) (t : Nat) (ht : t < n) : d'[a + t]! = d[b + t]! := by
  rw [h.2 _ (by omega), if_pos (by omega)]
  congr 1
  omega
theorem IsSw.snd {d d' : Array Int} {a b n : Nat} (h : IsSw d a b n d') (hb : a + n ≤ b ∧ b + n ≤ d.size) (t : Nat) (ht : t < n) : d'[b + t]! = d[a + t]! := by
  rw [h.2 _ (by omega), if_neg (by omega), if_pos (by omega)]
  congr 1
  omega
theorem IsSw.out {d d' : Array Int} {a b n : Nat} (h : IsSw d a b n d') (k : Nat) (hk : k < d.size) (h1 : k < a ∨ a + n ≤ k) (h2 : k < b ∨ b + n ≤ k) : d'[k]! = d[k]! := by
  rw [h.2 _ hk, if_neg (by omega), if_neg (by omega)]
theorem rot_eq {d d' : Array Int} {m i : Nat} (hi : i ≤ m) (hb : m + i ≤ d.size) (h : IsSw d (m - i) m i d') : IsRot d (m - i) m (m + i) d' := by
  have hh : m - i + i ≤ m ∧ m + i ≤ d.size := by omega
  refine ⟨h.1, fun t ht => h.fst hh t (by omega), fun t ht => ?_, fun k hk hk2 => h.out k hk (by omega) (by omega)⟩
  rw [show m - i + (m + i - m) + t = m + t by omega]
  exact h.snd hh t (by omega)
theorem rot_gt {d d1 d' : Array Int} {m i j : Nat} (hi : i ≤ m) (hj : j < i) (hb : m + j ≤ d.size) (h : IsSw d (m - i) m j d1) (h' : IsRot d1 (m - (i - j)) m (m + j) d') : IsRot d (m - i) m (m + j) d' := by
  have hh : m - i + j ≤ m ∧ m + j ≤ d.size := by omega
  obtain ⟨s1, r1, r2, r3⟩ := h'
  have s0 := h.1
  refine ⟨by omega, fun t ht => ?_, fun t ht => ?_, fun k hk hk2 => ?_⟩
  · rw [r3 _ (by omega) (by omega), h.fst hh t (by omega)]
  · by_cases c : t < j
    · have e := r1 t (by omega)
      rw [show m - i + (m + j - m) + t = m - (i - j) + t by omega, e, h.snd hh t c]
    · have e := r2 (t - j) (by omega)
      rw [show m - i + (m + j - m) + t = m - (i - j) + (m + j - m) + (t - j) by omega, e, h.out _ (by omega) (by omega) (by omega)]
      congr 1
      omega
  · rw [r3 k (by omega) (by omega), h.out k hk (by omega) (by omega)]
theorem rot_lt {d d1 d' : Array Int} {m i j : Nat} (hi : i ≤ m) (hj : i < j) (hb : m + j ≤ d.size) (h : IsSw d (m - i) (m + j - i) i d1) (h' : IsRot d1 (m - i) m (m + (j - i)) d') : IsRot d (m - i) m (m + j) d' := by
  have hh : m - i + i ≤ m + j - i ∧ m + j - i + i ≤ d.size := by omega
  obtain ⟨s1, r1, r2, r3⟩ := h'
  have s0 := h.1
  refine ⟨by omega, fun t ht => ?_, fun t ht => ?_, fun k hk hk2 => ?_⟩
  · by_cases c : t < j - i
    · rw [r1 t (by omega), h.out _ (by omega) (by omega) (by omega)]
    · have e := r2 (t - (j - i)) (by omega)
      rw [show m - i + t = m - i + (m + (j - i) - m) + (t - (j - i)) by omega, e, h.fst hh _ (by omega)]
      congr 1
      omega
  · have e := h.snd hh t (by omega)
    rw [show m - i + (m + j - m) + t = m + j - i + t by omega, r3 _ (by omega) (by omega), e]
  · rw [r3 k (by omega) (by omega), h.out k hk (by omega) (by omega)]
theorem swr_at (fv : Value) (blk off cap a b n : Nat) (d : Array Int) (w : World) (hH : Sort.Holds (Value.int .i64) w blk off d) (hab : a + n ≤ b) (hb : b + n ≤ d.size) (hsz : d.size < 4611686018427387904) (sz : Nat) (es : sz = d.size) (ea eb en : Int) (e1 : ea = a) (e2 : eb = b) (e3 : en = n) :
    Calls Try.prog 67 #[.slice (some ⟨blk, off, none⟩) sz cap, .int .i64 ea, .int .i64 eb, .int .i64 en, fv] w fun e w' =>
      e = .returned (.tuple #[]) ∧ ∃ d', AtRow w blk off w' d' ∧ IsSw d a b n d' ∧ Sort.PermIn a (b + n) d d' := by
  subst e1 e2 e3 es
  exact (swr_walk fv blk off cap a b n d w hH hab hb hsz).mono (by rintro e w' ⟨rfl, m, d', h1, h2⟩; exact ⟨rfl, d', ⟨m, h1⟩, h2⟩)
set_option maxHeartbeats 8000000 in
set_option maxRecDepth 100000 in
theorem rot_walk (fv : Value) (blk off cap a m b : Nat) (d : Array Int) (w : World) (hH : Sort.Holds (Value.int .i64) w blk off d) (ham : a < m) (hmb : m < b) (hb : b ≤ d.size) (hsz : d.size < 4611686018427387904) :
    Calls Try.prog 56 #[.slice (some ⟨blk, off, none⟩) d.size cap, .int .i64 a, .int .i64 m, .int .i64 b, fv] w fun e w' =>
      e = .returned (.tuple #[]) ∧ ∃ d', AtRow w blk off w' d' ∧ IsRot d a m b d' ∧ Sort.PermIn a b d d' := by
  have HH := Aside0.mk hH
  clear hH
  go_enter Try.func56, Try.ntmps56
  go_wp2
  go_loopw [10, 11] (fun vi vj wr => ∃ (i j : Nat) (dk : Array Int), vi = .int .i64 i ∧ vj = .int .i64 j ∧ 0 < i ∧ 0 < j ∧ i ≤ m - a ∧ j ≤ b - m ∧ dk.size = d.size ∧ AtRow w blk off wr dk ∧ Sort.PermIn a b d dk ∧ (∀ d', IsRot dk (m - i) m (m + j) d' → IsRot d a m b d')) (fun vi vj _ => (Proofs.intOf vi).toNat + (Proofs.intOf vj).toNat)
  case atStart => exact ⟨m - a, b - m, d, by congr 1; omega, by congr 1; omega, by omega, by omega, by omega, by omega, rfl, AtRow.self HH.out, Sort.permIn_refl _ _ _, fun d' h => by rwa [show m - (m - a) = a by omega, show m + (b - m) = b by omega] at h⟩
  case round =>
    obtain ⟨i, j, dk, rfl, rfl, hi, hj, him, hjb, hsk, hA, hP, hR⟩ := hrel
    have HP := Aside0.mk hP
    clear hP
    have HA := Aside0.mk hA
    have HR := Aside0.mk hR
    have HS := Aside0.mk hsk
    have HK := Aside0.mk (hA.holds HH.out hsk)
    clear hA hR hsk
    by_cases e : i = j
    · subst e
      have HSW := Aside0.mk (swr_at fv blk off cap (m - i) m i dk wr HK.out (by omega) (by have := HS.out; omega) (by have := HS.out; omega) d.size HS.out.symm ((m : Int) - i) m i (by omega) rfl rfl)
      go_wp2_with (go_at_call 67; refine HSW.out.mono ?_; rintro e w5 ⟨rfl, d1, hA, hS, hP1⟩; have HA1 := Aside0.mk hA; have HS1 := Aside0.mk hS; have HP1 := Aside0.mk hP1; clear hA hS hP1)
      go_end0
      exact ⟨rfl, d1, HA.out.trans HA1.out HS1.out.1, HR.out _ (rot_eq (by omega) (by have := HS.out; omega) HS1.out), Sort.permIn_trans _ _ _ _ _ HP.out (Sort.permIn_mono _ _ _ _ _ _ (by omega) (by omega) (by have := HS.out; omega) HP1.out)⟩
    · by_cases c : j < i
      · have HSW := Aside0.mk (swr_at fv blk off cap (m - i) m j dk wr HK.out (by omega) (by have := HS.out; omega) (by have := HS.out; omega) d.size HS.out.symm ((m : Int) - i) m j (by omega) rfl rfl)
        go_wp2_with (go_at_call 67; refine HSW.out.mono ?_; rintro e w5 ⟨rfl, d1, hA, hS, hP1⟩; have HA1 := Aside0.mk hA; have HS1 := Aside0.mk hS; have HP1 := Aside0.mk hP1; clear hA hS hP1)
        go_roundw
        case rel => exact ⟨i - j, j, d1, by congr 1; omega, rfl, by omega, by omega, by omega, by omega, HS1.out.1.trans HS.out, HA.out.trans HA1.out HS1.out.1, Sort.permIn_trans _ _ _ _ _ HP.out (Sort.permIn_mono _ _ _ _ _ _ (by omega) (by omega) (by have := HS.out; omega) HP1.out), fun d' h => HR.out d' (rot_gt (by omega) c (by have := HS.out; omega) HS1.out h)⟩
        case measure => simp [Proofs.intOf]; omega
      · have HSW := Aside0.mk (swr_at fv blk off cap (m - i) (m + j - i) i dk wr HK.out (by omega) (by have := HS.out; omega) (by have := HS.out; omega) d.size HS.out.symm ((m : Int) - i) ((m : Int) + j - i) i (by omega) (by omega) rfl)
        go_wp2_with (go_at_call 67; refine HSW.out.mono ?_; rintro e w5 ⟨rfl, d1, hA, hS, hP1⟩; have HA1 := Aside0.mk hA; have HS1 := Aside0.mk hS; have HP1 := Aside0.mk hP1; clear hA hS hP1)
        go_roundw
        case rel => exact ⟨i, j - i, d1, rfl, by congr 1; omega, by omega, by omega, by omega, by omega, HS1.out.1.trans HS.out, HA.out.trans HA1.out HS1.out.1, Sort.permIn_trans _ _ _ _ _ HP.out (Sort.permIn_mono _ _ _ _ _ _ (by omega) (by omega) (by have := HS.out; omega) HP1.out), fun d' h => HR.out d' (rot_lt (by omega) (by omega) (by have := HS.out; omega) HS1.out h)⟩
        case measure => simp [Proofs.intOf]; omega
def SrtT (T : Int → Int → Prop) (a b : Nat) (d : Array Int) : Prop := ∀ p q, a ≤ p → p < q → q < b → T d[p]! d[q]!
structure MPre (lt : Int → Int → Bool) (T : Int → Int → Prop) (a m b : Nat) (d : Array Int) : Prop where
  s1 : SrtT T a m d
  s2 : SrtT T m b d
  x : ∀ p q, a ≤ p → p < m → m ≤ q → q < b → (lt d[q]! d[p]! = true → T d[q]! d[p]!) ∧ (lt d[q]! d[p]! = false → T d[p]! d[q]!)
theorem IsRot.none (d : Array Int) {s m e : Nat} (h : s = m ∨ m = e) (hs : s ≤ m) (he : m ≤ e) : IsRot d s m e d := by
  refine ⟨rfl, fun t ht => ?_, fun t ht => ?_, fun _ _ _ => rfl⟩
  · rw [show s = m by omega]
  · rw [show s + (e - m) + t = s + t by omega]
theorem IsRot.at {d d1 : Array Int} {s m e : Nat} (h : IsRot d s m e d1) (hs : s ≤ m) (he : m ≤ e) (hb : e ≤ d.size) (k : Nat) (hk : k < d.size) :
    d1[k]! = if k < s then d[k]! else if k < s + (e - m) then d[k + (m - s)]! else if k < e then d[k - (e - m)]! else d[k]! := by
  obtain ⟨_, r1, r2, r3⟩ := h
  by_cases c1 : k < s
  · rw [if_pos c1]
    exact r3 k hk (.inl c1)
  · rw [if_neg c1]
    by_cases c2 : k < s + (e - m)
    · rw [if_pos c2]
      have := r1 (k - s) (by omega)
      rw [show s + (k - s) = k by omega] at this
      rw [this]
      congr 1
      omega
    · rw [if_neg c2]
      by_cases c3 : k < e
      · rw [if_pos c3]
        have := r2 (k - (s + (e - m))) (by omega)
        rw [show s + (e - m) + (k - (s + (e - m))) = k by omega] at this
        rw [this]
        congr 1
        omega
      · rw [if_neg c3]
        exact r3 k hk (.inr (by omega))
section
variable {lt : Int → Int → Bool} {T : Int → Int → Prop} {a m b s e : Nat} {d d1 d2 d3 : Array Int}
theorem rot_low (h : IsRot d s m e d1) (P : MPre lt T a m b d) (ha : a ≤ s) (hs : s ≤ m) (he : m ≤ e) (hb : e ≤ b) (hz : b ≤ d.size) : MPre lt T a s (s + (e - m)) d1 := by
  have A := h.at hs he (by omega)
  refine ⟨fun p q h1 h2 h3 => ?_, fun p q h1 h2 h3 => ?_, fun p q h1 h2 h3 h4 => ?_⟩
  · rw [A p (by omega), A q (by omega), if_pos (by omega), if_pos h3]
    exact P.s1 p q h1 h2 (by omega)
  · rw [A p (by omega), A q (by omega), if_neg (by omega), if_pos (by omega), if_neg (by omega), if_pos h3]
    exact P.s2 _ _ (by omega) (by omega) (by omega)
  · rw [A p (by omega), A q (by omega), if_pos h2, if_neg (by omega), if_pos h4]
    exact P.x p _ h1 (by omega) (by omega) (by omega)
theorem rot_high (h : IsRot d s m e d1) (P : MPre lt T a m b d) (ha : a ≤ s) (hs : s ≤ m) (he : m ≤ e) (hb : e ≤ b) (hz : b ≤ d.size) : MPre lt T (s + (e - m)) e b d1 := by
  have A := h.at hs he (by omega)
  refine ⟨fun p q h1 h2 h3 => ?_, fun p q h1 h2 h3 => ?_, fun p q h1 h2 h3 h4 => ?_⟩
  · rw [A p (by omega), A q (by omega), if_neg (by omega), if_neg (by omega), if_pos (by omega), if_neg (by omega), if_neg (by omega), if_pos h3]
    exact P.s1 _ _ (by omega) (by omega) (by omega)
  · rw [A p (by omega), A q (by omega), if_neg (by omega), if_neg (by omega), if_neg (by omega), if_neg (by omega), if_neg (by omega), if_neg (by omega)]
    exact P.s2 _ _ (by omega) h2 h3
  · rw [A p (by omega), A q (by omega), if_neg (by omega), if_neg (by omega), if_pos h2, if_neg (by omega), if_neg (by omega), if_neg (by omega)]
    exact P.x _ q (by omega) (by omega) (by omega) h4
theorem rot_cross (h : IsRot d s m e d1) (P : MPre lt T a m b d) (ha : a ≤ s) (hs : s ≤ m) (he : m ≤ e) (hb : e ≤ b) (hz : b ≤ d.size)
    (c1 : ∀ p q, a ≤ p → p < s → e ≤ q → q < b → T d[p]! d[q]!) (c2 : ∀ q p, m ≤ q → q < e → s ≤ p → p < m → T d[q]! d[p]!) :
    ∀ p q, a ≤ p → p < s + (e - m) → s + (e - m) ≤ q → q < b → T d1[p]! d1[q]! := by
  have A := h.at hs he (by omega)
  intro p q h1 h2 h3 h4
  rw [A p (by omega), A q (by omega), if_neg (show ¬ q < s by omega), if_neg (show ¬ q < s + (e - m) by omega)]
  by_cases e1 : p < s
  · rw [if_pos e1]
    by_cases e2 : q < e
    · rw [if_pos e2]
      exact P.s1 _ _ h1 (by omega) (by omega)
    · rw [if_neg e2]
      exact c1 p q h1 e1 (by omega) h4
  · rw [if_neg e1, if_pos h2]
    by_cases e2 : q < e
    · rw [if_pos e2]
      exact c2 _ _ (by omega) (by omega) (by omega) (by omega)
    · rw [if_neg e2]
      exact P.s2 _ _ (by omega) (by omega) h4
theorem merge_fin {mid : Nat} (hab : a ≤ mid ∧ mid ≤ b ∧ b ≤ d1.size) (c : ∀ p q, a ≤ p → p < mid → mid ≤ q → q < b → T d1[p]! d1[q]!) (p1 : Sort.PermIn a mid d1 d2) (t1 : SrtT T a mid d2) (p2 : Sort.PermIn mid b d2 d3) (t2 : SrtT T mid b d3) :
    SrtT T a b d3 ∧ Sort.PermIn a b d1 d3 := by
  have hz2 : d2.size = d1.size := p1.1
  have X1 : ∀ p q, a ≤ p → p < mid → mid ≤ q → q < b → T d2[p]! d2[q]! := fun p q h1 h2 h3 h4 => by
    rw [p1.2.1 q (.inr h3)]
    exact Sort.permIn_all d1 d2 a mid (fun x => T x d1[q]!) (by omega) p1 (fun i hi hi2 => c i q hi hi2 h3 h4) p h1 h2
  have X2 : ∀ p q, a ≤ p → p < mid → mid ≤ q → q < b → T d3[p]! d3[q]! := fun p q h1 h2 h3 h4 => by
    rw [p2.2.1 p (.inl h2)]
    exact Sort.permIn_all d2 d3 mid b (fun x => T d2[p]! x) (by omega) p2 (fun i hi hi2 => X1 p i h1 h2 hi hi2) q h3 h4
  refine ⟨fun p q h1 h2 h3 => ?_, Sort.permIn_trans _ _ _ _ _ (Sort.permIn_mono _ _ _ _ _ _ (Nat.le_refl _) hab.2.1 (by omega) p1) (Sort.permIn_mono _ _ _ _ _ _ hab.1 (Nat.le_refl _) (by omega) p2)⟩
  by_cases e1 : q < mid
  · rw [p2.2.1 p (.inl (by omega)), p2.2.1 q (.inl e1)]
    exact t1 p q h1 h2 e1
  · by_cases e2 : p < mid
    · exact X2 p q h1 e2 (by omega) h3
    · exact t2 p q (by omega) h2 h3
theorem fin1 {i : Nat} (h : IsRot d a (a + 1) i d1) (hi : a + 1 ≤ i) (hib : i ≤ b) (hz : b ≤ d.size) (S : SrtT T (a + 1) b d) (c1 : ∀ q, a + 1 ≤ q → q < i → T d[q]! d[a]!) (c2 : ∀ q, i ≤ q → q < b → T d[a]! d[q]!) : SrtT T a b d1 := by
  have A := h.at (by omega) hi (by omega)
  intro p q h1 h2 h3
  rw [A p (by omega), A q (by omega), if_neg (show ¬ p < a by omega), if_neg (show ¬ q < a by omega)]
  by_cases e1 : p < a + (i - (a + 1))
  · rw [if_pos e1]
    by_cases e2 : q < a + (i - (a + 1))
    · rw [if_pos e2]
      exact S _ _ (by omega) (by omega) (by omega)
    · rw [if_neg e2]
      by_cases e3 : q < i
      · rw [if_pos e3, show q - (i - (a + 1)) = a by omega]
        exact c1 _ (by omega) (by omega)
      · rw [if_neg e3]
        exact S _ _ (by omega) (by omega) h3
  · rw [if_neg e1, if_neg (show ¬ q < a + (i - (a + 1)) by omega), if_neg (show ¬ q < i by omega)]
    by_cases e3 : p < i
    · rw [if_pos e3, show p - (i - (a + 1)) = a by omega]
      exact c2 _ (by omega) h3
    · rw [if_neg e3]
      exact S _ _ (by omega) h2 h3
theorem fin2 {i : Nat} (h : IsRot d i m (m + 1) d1) (hi : i ≤ m) (hia : a ≤ i) (hz : m + 1 ≤ d.size) (S : SrtT T a m d) (c1 : ∀ p, a ≤ p → p < i → T d[p]! d[m]!) (c2 : ∀ p, i ≤ p → p < m → T d[m]! d[p]!) : SrtT T a (m + 1) d1 := by
  have A := h.at hi (by omega) hz
  intro p q h1 h2 h3
  rw [A p (by omega), A q (by omega), if_pos (show q < m + 1 by omega), if_pos (show p < m + 1 by omega)]
  by_cases e1 : p < i
  · rw [if_pos e1]
    by_cases e2 : q < i
    · rw [if_pos e2]
      exact S _ _ h1 h2 (by omega)
    · rw [if_neg e2]
      by_cases e3 : q < i + (m + 1 - m)
      · rw [if_pos e3, show q + (m - i) = m by omega]
        exact c1 _ h1 e1
      · rw [if_neg e3]
        exact S _ _ h1 (by omega) (by omega)
  · rw [if_neg e1, if_neg (show ¬ q < i by omega), if_neg (show ¬ q < i + (m + 1 - m) by omega)]
    by_cases e3 : p < i + (m + 1 - m)
    · rw [if_pos e3, show p + (m - i) = m by omega]
      exact c2 _ (by omega) (by omega)
    · rw [if_neg e3]
      exact S _ _ (by omega) (by omega) (by omega)
theorem rot1_step {k : Nat} (h : IsRot d a (a + 1) (k + 1) d1) (ha : a ≤ k) (hk : k + 1 < d.size) : IsRot d a (a + 1) (k + 2) (Sort.swp d1 k (k + 1)) := by
  obtain ⟨z, r1, r2, r3⟩ := h
  have G := Sort.swp_get d1 (i := k) (j := k + 1) (by omega) (by omega)
  refine ⟨by rw [Sort.size_swp, z], fun t ht => ?_, fun t ht => ?_, fun q hq hq2 => ?_⟩
  · rw [G, if_neg (by omega)]
    by_cases c : a + t = k
    · rw [if_pos c, r3 _ hk (by omega)]
      congr 1
      omega
    · rw [if_neg c, r1 t (by omega)]
  · obtain rfl : t = 0 := by omega
    rw [G, if_pos (by omega)]
    have := r2 0 (by omega)
    rw [show a + (k + 1 - (a + 1)) + 0 = k by omega] at this
    exact this
  · rw [G, if_neg (by omega), if_neg (by omega), r3 q hq (by omega)]
theorem rot2_step {k : Nat} (h : IsRot d k m (m + 1) d1) (hk : 0 < k) (hm : k ≤ m) (hz : m + 1 ≤ d.size) : IsRot d (k - 1) m (m + 1) (Sort.swp d1 k (k - 1)) := by
  obtain ⟨z, r1, r2, r3⟩ := h
  have G := Sort.swp_get d1 (i := k) (j := k - 1) (by omega) (by omega)
  refine ⟨by rw [Sort.size_swp, z], fun t ht => ?_, fun t ht => ?_, fun q hq hq2 => ?_⟩
  · obtain rfl : t = 0 := by omega
    rw [G, if_pos (by omega)]
    exact r1 0 (by omega)
  · rw [G, if_neg (by omega)]
    by_cases c : t = 0
    · subst c
      rw [if_pos (by omega), r3 _ (by omega) (by omega)]
      rfl
    · rw [if_neg (by omega)]
      have := r2 (t - 1) (by omega)
      rw [show k + (m + 1 - m) + (t - 1) = k - 1 + (m + 1 - m) + t by omega] at this
      rw [this]
      congr 1
      omega
  · rw [G, if_neg (by omega), if_neg (by omega), r3 q hq (by omega)]
end
set_option maxHeartbeats 1000000 in
theorem wp_half {w : World} {ops : Array Oper} {rest : List Oper} {o : Oper} {a : Act} {Q : Exit → Act → World → Prop}
    (hg : o.guard = none) (x : Operand) (hop : o.op = Op.binOp BinOp.shr 85 x (Operand.const (Value.int IntKind.u64 1)) 85) (n h : Int) (hn : 0 ≤ n) (hx : a.eval x = .int .u64 n) (hh : n / 2 = h)
    (hK : wpList Try.prog ops Q rest (a.put o.dst (.int .u64 h)) w) : wpList Try.prog ops Q (o :: rest) a w := by
  have hu85 := Try.underlying85
  refine Kd.event_run hg ?_ hK
  simp only [execOp, hop, hx]
  go_simp
theorem InR.perm {N : Int} {a b : Nat} {d d' : Array Int} (h : InR N d) (p : Sort.PermIn a b d d') (hb : b ≤ d.size) : InR N d' := by
  intro t ht
  have hz := p.1
  by_cases c : a ≤ t ∧ t < b
  · exact Sort.permIn_all d d' a b (fun x => 0 ≤ x ∧ x < N) hb p (fun i _ h2 => h i (by omega)) t c.1 c.2
  · rw [p.2.1 t (by omega)]
    exact h t (by omega)
theorem CmpOk.at {gb : Nat} {cv : Int → Int → Int} {N : Int} {w W : World} {blk : Nat} (h : CmpOk gb cv N w blk) (s : Side w W blk) : CmpOk gb cv N W blk :=
  fun x y hx hy W' hs => h x y hx hy W' (fun k hk => (hs k hk).trans (s k hk))
def SymPost (T : Int → Int → Prop) (blk off a b : Nat) (d : Array Int) (w : World) (e : Ending) (w' : World) : Prop :=
  e = .returned (.tuple #[]) ∧ ∃ d', AtRow w blk off w' d' ∧ Sort.PermIn a b d d' ∧ SrtT T a b d'
theorem AtRow.cells {w W : World} {blk off : Nat} {d0 d : Array Int} (h : AtRow w blk off W d) (h0 : Sort.Holds (Value.int .i64) w blk off d0) (hs : d.size = d0.size) :
    (∀ t, t < d0.size → W.cell? ⟨blk, off + t, none⟩ = some (.int .i64 d[t]!)) ∧ ∀ t, t < d0.size → W.frozen? ⟨blk, off + t, none⟩ = false := by
  have hh := h.holds h0 hs
  exact ⟨fun t ht => (hh t (by omega)).1, fun t ht => (hh t (by omega)).2⟩
theorem AtRow.swap {w W : World} {blk off : Nat} {d : Array Int} (h : AtRow w blk off W d) (q j k : Nat) (hj : j < d.size) (hk : k < d.size) :
    AtRow w blk off (((W.drewN q).setCell ⟨blk, off + j, none⟩ (.int .i64 d[k]!)).setCell ⟨blk, off + k, none⟩ (.int .i64 d[j]!)) (Sort.swp d j k) := by
  obtain ⟨n, rfl⟩ := h
  exact ⟨n + q, Proofs.swap_worldA _ w n q blk off d j k hj hk⟩
set_option maxHeartbeats 8000000 in
set_option maxRecDepth 100000 in
theorem sym_one (gb : Nat) (cv : Int → Int → Int) (N : Int) (T : Int → Int → Prop) (hT : ∀ x y z, T x y → T y z → T x z) (blk off cap a m b : Nat) (d : Array Int) (w : World) (hH : Sort.Holds (Value.int .i64) w blk off d) (hm : m = a + 1) (hmb : m < b) (hb : b ≤ d.size) (hsz : d.size < 1000000000)
    (hR : InR N d) (hC : CmpOk gb cv N w blk) (hP : MPre (ltOf cv) T a m b d) :
    Calls Try.prog 52 #[.slice (some ⟨blk, off, none⟩) d.size cap, .int .i64 a, .int .i64 m, .int .i64 b, .func (.func 35) #[] #[.pointer (some ⟨gb, 0, none⟩)]] w (SymPost T blk off a b d w) := by
  have HC := Aside0.mk hC
  have HR := Aside0.mk hR
  have HH := Aside0.mk hH
  have HP := Aside0.mk hP
  have HT := Aside0.mk hT
  clear hC hR hH hP hT
  have HM1 := Aside0.mk hm
  have hma : a < m := by omega
  have hme : ((m : Int) - (a : Int) == 1) = true := beq_iff_eq.2 (by omega)
  clear hm
  go_enter Try.func52, Try.ntmps52
  go_wp2
  clear hme
  go_loopw [10, 11] (fun vi vj wr => ∃ (i j : Nat), vi = .int .i64 i ∧ vj = .int .i64 j ∧ m ≤ i ∧ i ≤ j ∧ j ≤ b ∧ AtRow w blk off wr d ∧ (∀ q, m ≤ q → q < i → T d[q]! d[a]!) ∧ (∀ q, j ≤ q → q < b → T d[a]! d[q]!)) (fun vi vj _ => (Proofs.intOf vj).toNat - (Proofs.intOf vi).toNat)
  case atStart => exact ⟨m, b, rfl, rfl, by omega, by omega, by omega, AtRow.self HH.out, fun q h1 h2 => by omega, fun q h1 h2 => by omega⟩
  case round =>
    obtain ⟨i, j, rfl, rfl, hi, hij, hj, hA, hL, hU⟩ := hrel
    have HA := Aside0.mk hA
    have HL := Aside0.mk hL
    have HU := Aside0.mk hU
    clear hA hL hU
    by_cases c : i < j
    · obtain ⟨G, hG⟩ : ∃ G : Nat → Int, ∀ t, G t = d[t]! := ⟨fun t => d[t]!, fun _ => rfl⟩
      obtain ⟨hcw, hfw⟩ := HA.out.cells HH.out rfl
      have HG : Hid (∀ t, G t = d[t]!) := hG
      simp only [← hG] at hcw
      clear hG
      obtain ⟨h, hh⟩ : ∃ h : Nat, h = (i + j) / 2 := ⟨_, rfl⟩
      have hb1 : i ≤ h ∧ h < j := by omega
      have HQ := fun n => Aside0.mk (HC.out (G h) (G a) (by rw [HG]; exact HR.out _ (by omega)) (by rw [HG]; exact HR.out _ (by omega)) (wr.drewN n) HA.out.side)
      have e1 : Aside0 (((i : Int) + j) / 2 = h) := ⟨by omega⟩
      clear hh
      go_wp2_with ((with_reducible refine gate_dst (N := 38) rfl ?_); refine wp_half ?hg (Operand.tmp 37) ?hop ((i : Int) + j) (h : Int) ?hn ?hx e1.out ?_; (case hg => rfl); (case hop => rfl); (case hn => omega); (case hx => first | (go_simp; done) | (go_simp; rfl)))
      go_quiet (first | (go_at_call 35; refine Calls.quiet_of (HQ _).out))
      go_wp2
      · have hl : cv (G h) (G a) < 0 := by assumption
        have X := (HP.out.x a h (Nat.le_refl _) (by omega) (by omega) (by omega)).1 (by rw [← HG.out, ← HG.out]; exact decide_eq_true hl)
        have HX := Aside0.mk X
        clear X
        go_roundw
        case rel => exact ⟨h + 1, j, by go_num, rfl, by omega, by omega, by omega, HA.out.drewN nq, fun q h1 h2 => if e : q = h then e ▸ HX.out else HT.out _ _ _ (HP.out.s2 q h h1 (Nat.lt_of_le_of_ne (Nat.le_of_lt_succ h2) e) (by omega)) HX.out, HU.out⟩
        case measure => simp [Proofs.intOf]; omega
      · have X := (HP.out.x a h (Nat.le_refl _) (by omega) (by omega) (by omega)).2 (by rw [← HG.out, ← HG.out]; exact decide_eq_false (by omega))
        have HX := Aside0.mk X
        clear X
        go_roundw
        case rel => exact ⟨i, h, rfl, rfl, by omega, by omega, by omega, HA.out.drewN nq, HL.out, fun q h1 h2 => if e : q = h then e ▸ HX.out else HT.out _ _ _ HX.out (HP.out.s2 h q (by omega) (Nat.lt_of_le_of_ne h1 (Ne.symm e)) h2)⟩
        case measure => simp [Proofs.intOf]; omega
    · have e0 : i = j := by omega
      subst e0
      go_wp2
      go_loopw [13] (fun vk wr2 => ∃ (k : Nat) (dk : Array Int), vk = .int .i64 k ∧ a ≤ k ∧ k + 1 ≤ i ∧ AtRow w blk off wr2 dk ∧ IsRot d a m (k + 1) dk ∧ Sort.PermIn a b d dk) (fun vk _ => i - (Proofs.intOf vk).toNat)
      case atStart => exact ⟨a, d, rfl, Nat.le_refl _, by have := HM1.out; omega, HA.out, IsRot.none d (.inr HM1.out) (by omega) (by have := HM1.out; omega), Sort.permIn_refl _ _ _⟩
      case round =>
        obtain ⟨k, dk, rfl, hak, hki, hA2, hR2, hP2⟩ := hrel
        have HA2 := Aside0.mk hA2
        have HR2 := Aside0.mk hR2
        have HP2 := Aside0.mk hP2
        have HS2 := Aside0.mk hR2.1
        clear hA2 hR2 hP2
        by_cases c2 : k + 1 < i
        · obtain ⟨G, hG⟩ : ∃ G : Nat → Int, ∀ t, G t = dk[t]! := ⟨fun t => dk[t]!, fun _ => rfl⟩
          obtain ⟨hcw, hfw⟩ := HA2.out.cells HH.out HS2.out
          have HG : Hid (∀ t, G t = dk[t]!) := hG
          simp only [← hG] at hcw
          clear hG
          go_wp2
          go_region
          all_goals go_wp2
          go_roundw
          case rel =>
            refine ⟨k + 1, Sort.swp dk k (k + 1), by go_num, by omega, by omega, ?_, ?_, ?_⟩
            · rw [HG.out, HG.out]
              exact HA2.out.swap 1 k (k + 1) (by have := HS2.out; omega) (by have := HS2.out; omega)
            · have e := HM1.out
              subst e
              exact rot1_step HR2.out hak (by omega)
            · exact Sort.permIn_trans _ _ _ _ _ HP2.out (Sort.swp_permIn _ _ _ _ _ (by omega) (by omega) (by omega) (by omega) (by have := HS2.out; omega))
          case measure => simp [Proofs.intOf]; omega
        · have e1 : k + 1 = i := by omega
          have E1 := Aside0.mk e1
          clear e1
          go_wp2
          go_end0
          have e := HM1.out
          subst e
          obtain rfl := E1.out
          exact ⟨rfl, dk, HA2.out, HP2.out, fin1 HR2.out (by omega) (by omega) hb HP.out.s2 HL.out HU.out⟩
set_option maxHeartbeats 8000000 in
set_option maxRecDepth 100000 in
theorem sym_two (gb : Nat) (cv : Int → Int → Int) (N : Int) (T : Int → Int → Prop) (hT : ∀ x y z, T x y → T y z → T x z) (blk off cap a m b : Nat) (d : Array Int) (w : World) (hH : Sort.Holds (Value.int .i64) w blk off d) (hma : a + 1 < m) (hm : b = m + 1) (hb : b ≤ d.size) (hsz : d.size < 1000000000)
    (hR : InR N d) (hC : CmpOk gb cv N w blk) (hP : MPre (ltOf cv) T a m b d) :
    Calls Try.prog 52 #[.slice (some ⟨blk, off, none⟩) d.size cap, .int .i64 a, .int .i64 m, .int .i64 b, .func (.func 35) #[] #[.pointer (some ⟨gb, 0, none⟩)]] w (SymPost T blk off a b d w) := by
  have HC := Aside0.mk hC
  have HR := Aside0.mk hR
  have HH := Aside0.mk hH
  have HP := Aside0.mk hP
  have HT := Aside0.mk hT
  clear hC hR hH hP hT
  have HM1 := Aside0.mk hm
  have hmb : m < b := by omega
  have hme : ((m : Int) - (a : Int) == 1) = false := beq_eq_false_iff_ne.2 (by omega)
  have hme2 : ((b : Int) - (m : Int) == 1) = true := beq_iff_eq.2 (by omega)
  clear hm
  go_enter Try.func52, Try.ntmps52
  go_wp2
  clear hme hme2
  go_loopw [14, 15] (fun vi vj wr => ∃ (i j : Nat), vi = .int .i64 i ∧ vj = .int .i64 j ∧ a ≤ i ∧ i ≤ j ∧ j ≤ m ∧ AtRow w blk off wr d ∧ (∀ p, a ≤ p → p < i → T d[p]! d[m]!) ∧ (∀ p, j ≤ p → p < m → T d[m]! d[p]!)) (fun vi vj _ => (Proofs.intOf vj).toNat - (Proofs.intOf vi).toNat)
  case atStart => exact ⟨a, m, rfl, rfl, by omega, by omega, by omega, AtRow.self HH.out, fun q h1 h2 => by omega, fun q h1 h2 => by omega⟩
  case round =>
    obtain ⟨i, j, rfl, rfl, hi, hij, hj, hA, hL, hU⟩ := hrel
    have HA := Aside0.mk hA
    have HL := Aside0.mk hL
    have HU := Aside0.mk hU
    clear hA hL hU
    by_cases c : i < j
    · obtain ⟨G, hG⟩ : ∃ G : Nat → Int, ∀ t, G t = d[t]! := ⟨fun t => d[t]!, fun _ => rfl⟩
      obtain ⟨hcw, hfw⟩ := HA.out.cells HH.out rfl
      have HG : Hid (∀ t, G t = d[t]!) := hG
      simp only [← hG] at hcw
      clear hG
      obtain ⟨h, hh⟩ : ∃ h : Nat, h = (i + j) / 2 := ⟨_, rfl⟩
      have hb1 : i ≤ h ∧ h < j := by omega
      have HQ := fun n => Aside0.mk (HC.out (G m) (G h) (by rw [HG]; exact HR.out _ (by omega)) (by rw [HG]; exact HR.out _ (by omega)) (wr.drewN n) HA.out.side)
      have e1 : Aside0 (((i : Int) + j) / 2 = h) := ⟨by omega⟩
      clear hh
      go_wp2_with ((with_reducible refine gate_dst (N := 90) rfl ?_); refine wp_half ?hg (Operand.tmp 89) ?hop ((i : Int) + j) (h : Int) ?hn ?hx e1.out ?_; (case hg => rfl); (case hop => rfl); (case hn => omega); (case hx => first | (go_simp; done) | (go_simp; rfl)))
      by_cases hl : cv (G m) (G h) < 0
      · have X := (HP.out.x h m (by omega) (by omega) (by omega) (by omega)).1 (by rw [← HG.out, ← HG.out]; exact decide_eq_true hl)
        have HX := Aside0.mk X
        clear X
        have hld : decide (cv (G m) (G h) < 0) = true := decide_eq_true hl
        go_quiet (first | (go_at_call 35; refine Calls.quiet_of (HQ _).out))
        go_wp2
        go_roundw
        case rel => exact ⟨i, h, rfl, rfl, by omega, by omega, by omega, HA.out.drewN nq, HL.out, fun q h1 h2 => if e : q = h then e ▸ HX.out else HT.out _ _ _ HX.out (HP.out.s1 h q (by omega) (Nat.lt_of_le_of_ne h1 (Ne.symm e)) h2)⟩
        case measure => simp [Proofs.intOf]; omega
      · have X := (HP.out.x h m (by omega) (by omega) (by omega) (by omega)).2 (by rw [← HG.out, ← HG.out]; exact decide_eq_false hl)
        have HX := Aside0.mk X
        clear X
        have hld : decide (cv (G m) (G h) < 0) = false := decide_eq_false hl
        go_quiet (first | (go_at_call 35; refine Calls.quiet_of (HQ _).out))
        go_wp2
        go_roundw
        case rel => exact ⟨h + 1, j, by go_num, rfl, by omega, by omega, by omega, HA.out.drewN nq, fun q h1 h2 => if e : q = h then e ▸ HX.out else HT.out _ _ _ (HP.out.s1 q h h1 (Nat.lt_of_le_of_ne (Nat.le_of_lt_succ h2) e) (by omega)) HX.out, HU.out⟩
        case measure => simp [Proofs.intOf]; omega
    · have e0 : i = j := by omega
      subst e0
      go_wp2
      go_loopw [17] (fun vk wr2 => ∃ (k : Nat) (dk : Array Int), vk = .int .i64 k ∧ i ≤ k ∧ k ≤ m ∧ AtRow w blk off wr2 dk ∧ IsRot d k m (m + 1) dk ∧ Sort.PermIn a b d dk) (fun vk _ => (Proofs.intOf vk).toNat)
      case atStart => exact ⟨m, d, rfl, by omega, Nat.le_refl _, HA.out, IsRot.none d (.inl rfl) (by omega) (by omega), Sort.permIn_refl _ _ _⟩
      case round =>
        obtain ⟨k, dk, rfl, hak, hki, hA2, hR2, hP2⟩ := hrel
        have HA2 := Aside0.mk hA2
        have HR2 := Aside0.mk hR2
        have HP2 := Aside0.mk hP2
        have HS2 := Aside0.mk hR2.1
        clear hA2 hR2 hP2
        by_cases c2 : i < k
        · obtain ⟨G, hG⟩ : ∃ G : Nat → Int, ∀ t, G t = dk[t]! := ⟨fun t => dk[t]!, fun _ => rfl⟩
          obtain ⟨hcw, hfw⟩ := HA2.out.cells HH.out HS2.out
          have HG : Hid (∀ t, G t = dk[t]!) := hG
          simp only [← hG] at hcw
          clear hG
          go_wp2
          go_region
          all_goals go_wp2
          go_roundw
          case rel =>
            refine ⟨k - 1, Sort.swp dk k (k - 1), by congr 1; omega, by omega, by omega, ?_, ?_, ?_⟩
            · rw [HG.out, HG.out]
              exact HA2.out.swap 1 k (k - 1) (by have := HS2.out; omega) (by have := HS2.out; omega)
            · exact rot2_step HR2.out (by omega) hki (by have := HM1.out; omega)
            · exact Sort.permIn_trans _ _ _ _ _ HP2.out (Sort.swp_permIn _ _ _ _ _ (by omega) (by omega) (by omega) (by omega) (by have := HS2.out; omega))
          case measure => simp [Proofs.intOf]; omega
        · have e1 : k = i := by omega
          have E1 := Aside0.mk e1
          clear e1
          go_wp2
          go_end0
          have e := HM1.out
          subst e
          obtain rfl := E1.out
          exact ⟨rfl, dk, HA2.out, HP2.out, fin2 HR2.out (by omega) (by omega) hb HP.out.s1 HL.out HU.out⟩
theorem sym_cross {lt : Int → Int → Bool} {T : Int → Int → Prop} (hT : ∀ x y z, T x y → T y z → T x z) {a m b mid s s0 r0 : Nat} {d : Array Int} (P : MPre lt T a m b d) (h1 : a ≤ s0) (h2 : s0 ≤ s) (h3 : s ≤ r0) (h4 : r0 ≤ mid) (h5 : r0 ≤ m) (h6 : mid + m - s0 ≤ b)
    (h8 : s0 = a ∨ mid + m - s0 = b) (h9 : r0 = m ∨ mid + m - r0 = m) (HL : ∀ q, s0 ≤ q → q < s → T d[q]! d[mid + m - 1 - q]!) (HU : ∀ q, s ≤ q → q < r0 → T d[mid + m - 1 - q]! d[q]!) :
    (∀ p q, a ≤ p → p < s → mid + m - s ≤ q → q < b → T d[p]! d[q]!) ∧ ∀ q p, m ≤ q → q < mid + m - s → s ≤ p → p < m → T d[q]! d[p]! := by
  refine ⟨fun p q hp hp2 hq hq2 => ?_, fun q p hq hq2 hp hp2 => ?_⟩
  · have X := HL (s - 1) (by omega) (by omega)
    rw [show mid + m - 1 - (s - 1) = mid + m - s by omega] at X
    have Y : T d[s - 1]! d[q]! := by
      by_cases e : q = mid + m - s
      · rw [e]
        exact X
      · exact hT _ _ _ X (P.s2 _ _ (by omega) (by omega) hq2)
    by_cases e : p = s - 1
    · rw [e]
      exact Y
    · exact hT _ _ _ (P.s1 _ _ hp (by omega) (by omega)) Y
  · have X := HU s (Nat.le_refl _) (by omega)
    have Y : T d[q]! d[s]! := by
      by_cases e : q = mid + m - 1 - s
      · rw [e]
        exact X
      · exact hT _ _ _ (P.s2 _ _ hq (by omega) (by omega)) X
    by_cases e : p = s
    · rw [e]
      exact Y
    · exact hT _ _ _ Y (P.s1 _ _ (by omega) (by omega) hp2)
theorem SrtT.congr {T : Int → Int → Prop} {a b : Nat} {d d' : Array Int} (h : SrtT T a b d) (e : ∀ k, a ≤ k → k < b → d'[k]! = d[k]!) : SrtT T a b d' := fun p q h1 h2 h3 => by
  rw [e p h1 (by omega), e q (by omega) h3]
  exact h p q h1 h2 h3
theorem MPre.congr {lt : Int → Int → Bool} {T : Int → Int → Prop} {a m b : Nat} {d d' : Array Int} (h : MPre lt T a m b d) (hm : a ≤ m ∧ m ≤ b) (e : ∀ k, a ≤ k → k < b → d'[k]! = d[k]!) : MPre lt T a m b d' :=
  ⟨h.s1.congr (fun k h1 h2 => e k h1 (by omega)), h.s2.congr (fun k h1 h2 => e k (by omega) h2), fun p q h1 h2 h3 h4 => by
    rw [e p h1 (by omega), e q (by omega) h4]
    exact h.x p q h1 h2 h3 h4⟩
section
variable {lt : Int → Int → Bool} {T : Int → Int → Prop} {a m b mid s : Nat} {d d1 d2 d3 : Array Int}
structure SymAt (lt : Int → Int → Bool) (T : Int → Int → Prop) (a m b mid s : Nat) (d : Array Int) : Prop where
  P : MPre lt T a m b d
  c1 : ∀ p q, a ≤ p → p < s → mid + m - s ≤ q → q < b → T d[p]! d[q]!
  c2 : ∀ q p, m ≤ q → q < mid + m - s → s ≤ p → p < m → T d[q]! d[p]!
  b1 : a ≤ s
  b2 : s ≤ m
  b3 : s ≤ mid
  b4 : mid + m - s ≤ b
  b5 : b ≤ d.size
  b6 : a < mid ∧ mid < b
theorem SymAt.low (h : SymAt lt T a m b mid s d) (r : IsRot d s m (mid + m - s) d1) : MPre lt T a s mid d1 := by
  have := rot_low r h.P h.b1 h.b2 (by have := h.b3; omega) h.b4 h.b5
  rwa [show s + (mid + m - s - m) = mid by have := h.b3; omega] at this
theorem SymAt.high (h : SymAt lt T a m b mid s d) (r : IsRot d s m (mid + m - s) d1) : MPre lt T mid (mid + m - s) b d1 := by
  have := rot_high r h.P h.b1 h.b2 (by have := h.b3; omega) h.b4 h.b5
  rwa [show s + (mid + m - s - m) = mid by have := h.b3; omega] at this
theorem SymAt.cross (h : SymAt lt T a m b mid s d) (r : IsRot d s m (mid + m - s) d1) : ∀ p q, a ≤ p → p < mid → mid ≤ q → q < b → T d1[p]! d1[q]! := by
  have := rot_cross r h.P h.b1 h.b2 (by have := h.b3; omega) h.b4 h.b5 h.c1 h.c2
  rwa [show s + (mid + m - s - m) = mid by have := h.b3; omega] at this
theorem SymAt.low0 (h : SymAt lt T a m b mid s d) (r : IsRot d s m (mid + m - s) d1) (c : ¬ (a < s ∧ s < mid)) : SrtT T a mid d1 := by
  have L := h.low r
  have := h.b1
  have := h.b3
  by_cases e : s = a
  · subst e
    exact L.s2
  · obtain rfl : s = mid := by omega
    exact L.s1
theorem SymAt.high0 (h : SymAt lt T a m b mid s d) (r : IsRot d s m (mid + m - s) d1) (p : Sort.PermIn a mid d1 d2) (c : ¬ (mid < mid + m - s ∧ mid + m - s < b)) : SrtT T mid b d2 := by
  have L := h.high r
  have := h.b2
  have := h.b4
  refine SrtT.congr (d := d1) ?_ (fun k h1 _ => p.2.1 k (.inr h1))
  by_cases e : mid + m - s = mid
  · rw [e] at L
    exact L.s2
  · have e2 : mid + m - s = b := by omega
    rw [e2] at L
    exact L.s1
theorem SymAt.fin (h : SymAt lt T a m b mid s d) (r : IsRot d s m (mid + m - s) d1) (p0 : Sort.PermIn a b d d1) (p1 : Sort.PermIn a mid d1 d2) (t1 : SrtT T a mid d2) (p2 : Sort.PermIn mid b d2 d3) (t2 : SrtT T mid b d3) : Sort.PermIn a b d d3 ∧ SrtT T a b d3 := by
  have := merge_fin (T := T) ⟨Nat.le_of_lt h.b6.1, Nat.le_of_lt h.b6.2, by have := h.b5; have := r.1; omega⟩ (h.cross r) p1 t1 p2 t2
  exact ⟨Sort.permIn_trans _ _ _ _ _ p0 this.2, this.1⟩
end
theorem sym_start {a m b mid : Nat} (h1 : a + 1 < m) (h2 : m + 1 < b) (hm : mid = (a + b) / 2) : ∃ s0 r0 : Nat, (mid < m → (s0 : Int) = mid + m - b ∧ r0 = mid) ∧ (¬ mid < m → s0 = a ∧ r0 = m) ∧ a ≤ s0 ∧ s0 ≤ r0 ∧ r0 ≤ mid ∧ r0 ≤ m ∧ mid + m - s0 ≤ b ∧ (s0 = a ∨ mid + m - s0 = b) ∧ (r0 = m ∨ mid + m - r0 = m) := by
  by_cases c : mid < m
  · exact ⟨mid + m - b, mid, fun _ => ⟨by omega, rfl⟩, fun h => absurd c h, by omega, by omega, by omega, by omega, by omega, by omega, by omega⟩
  · exact ⟨a, m, fun h => absurd h c, fun _ => ⟨rfl, rfl⟩, by omega, by omega, by omega, by omega, by omega, by omega, by omega⟩
def SymAll  (gb : Nat) (cv : Int → Int → Int) (N : Int) (T : Int → Int → Prop) (blk off cap : Nat) (n : Nat) : Prop := ∀ (a m b : Nat) (d : Array Int) (w : World), b - a ≤ n → Sort.Holds (Value.int .i64) w blk off d → a < m → m < b → b ≤ d.size → d.size < 1000000000 →
    InR N d → CmpOk gb cv N w blk → MPre (ltOf cv) T a m b d → ∀ sz : Nat, sz = d.size →
    Calls Try.prog 52 #[.slice (some ⟨blk, off, none⟩) sz cap, .int .i64 a, .int .i64 m, .int .i64 b, .func (.func 35) #[] #[.pointer (some ⟨gb, 0, none⟩)]] w (SymPost T blk off a b d w)
end Go.Proofs.Ytbadelcnaeijkaa.Q
end
section
namespace Go.Proofs.Ytbadelcnaeijkaa.Q
open Go.RowKit Go.Proofs.YtbadelcnaeijkaaW.PrintWords Go.Proofs.YtbadelcnaeijkaaW.PrintLast Go.Proofs.YtbadelcnaeijkaaW.PrintMore
attribute [local go_sem] max2_int min2_int max_two min_two max_three min_three max_four min_four
attribute [local go_sem ↓] isSome_setCell
attribute [local go_sem] string_gtr
set_option linter.unusedVariables false
set_option linter.unusedSimpArgs false
def cvK (K : Int → Int) (x y : Int) : Int := if K y < K x then -1 else if K x < K y then 1 else 0
def ltK (K : Int → Int) (x y : Int) : Bool := decide (K y < K x ∨ (K x = K y ∧ x < y))
def TK (K : Int → Int) (x y : Int) : Prop := ltK K y x = false
theorem swo_ltK (K : Int → Int) : Sort.SWO (ltK K) := by
  refine ⟨fun x => ?_, fun x y z h1 h2 => ?_, fun x y z h1 h2 => ?_⟩ <;> simp only [ltK, decide_eq_true_eq, decide_eq_false_iff_not] at * <;> omega
theorem TK_trans (K : Int → Int) : ∀ x y z, TK K x y → TK K y z → TK K x z := fun x y z h1 h2 => (swo_ltK K).ntrans z y x h2 h1
theorem ltOf_ltK (K : Int → Int) {x y : Int} (h : y < x) : ltOf (cvK K) x y = ltK K x y := by
  unfold ltOf cvK ltK
  by_cases c : K y < K x
  · rw [if_pos c]; simp [c]
  · rw [if_neg c]
    have e : decide (K y < K x ∨ (K x = K y ∧ x < y)) = false := decide_eq_false (by omega)
    rw [e]
    by_cases c2 : K x < K y
    · rw [if_pos c2]; rfl
    · rw [if_neg c2]; rfl
theorem insInner_eq (K : Int → Int) (a : Nat) : ∀ (j : Nat) (d : Array Int), j < d.size → (∀ p, a ≤ p → p < j → d[p]! < d[j]!) → Sort.insInner (ltOf (cvK K)) a j d = Sort.insInner (ltK K) a j d
  | 0, _, _, _ => rfl
  | j + 1, d, hj, h => by
    unfold Sort.insInner
    by_cases c : j + 1 > a
    · rw [ltOf_ltK K (h j (by omega) (by omega))]
      have g := Sort.swp_get d hj (show j < d.size by omega)
      rw [insInner_eq K a j (Sort.swp d (j + 1) j) (by rw [Sort.size_swp]; omega) (fun p h1 h2 => by
        rw [g, g, if_neg (by omega), if_neg (by omega), if_pos rfl]
        exact h p h1 (by omega))]
    · rw [show decide (j + 1 > a) = false from decide_eq_false c]
      rfl
theorem insInner_perm (lt : Int → Int → Bool) (a b : Nat) : ∀ (j : Nat) (d : Array Int), j < b → b ≤ d.size → Sort.PermIn a b d (Sort.insInner lt a j d)
  | 0, d, _, _ => Sort.permIn_refl _ _ _
  | j + 1, d, hj, hb => by
    unfold Sort.insInner
    split
    · rename_i c
      have c1 : j + 1 > a := by simp at c; omega
      exact Sort.permIn_trans _ _ _ _ _ (Sort.swp_permIn _ _ _ _ _ (by omega) (by omega) (by omega) (by omega) hb) (insInner_perm lt a b j _ (by omega) (by rw [Sort.size_swp]; exact hb))
    · exact Sort.permIn_refl _ _ _
theorem insOuter_eq (K : Int → Int) (a b : Nat) : ∀ (n i : Nat) (d : Array Int), b - i = n → a ≤ i → b ≤ d.size → (∀ p q, a ≤ p → p < i → i ≤ q → q < b → d[p]! < d[q]!) → (∀ p q, i ≤ p → p < q → q < b → d[p]! < d[q]!) →
    Sort.insOuter (ltOf (cvK K)) a b i d = Sort.insOuter (ltK K) a b i d
  | 0, i, d, hn, _, _, _, _ => by
    rw [Sort.insOuter, if_neg (by omega), Sort.insOuter, if_neg (by omega)]
  | n + 1, i, d, hn, hi, hb, h1, h2 => by
    have c : i < b := by omega
    rw [Sort.insOuter, if_pos c]
    conv => rhs; rw [Sort.insOuter, if_pos c]
    rw [insInner_eq K a i d (by omega) (fun p p1 p2 => h1 p i p1 p2 (Nat.le_refl _) c)]
    have P := insInner_perm (ltK K) a (i + 1) i d (by omega) (by omega)
    have Z : (Sort.insInner (ltK K) a i d).size = d.size := P.1
    refine insOuter_eq K a b n (i + 1) _ (by omega) (by omega) (by omega) (fun p q p1 p2 p3 p4 => ?_) (fun p q p1 p2 p3 => ?_)
    · rw [P.2.1 q (by omega)]
      refine Sort.permIn_all d _ a (i + 1) (fun x => x < d[q]!) (by omega) P (fun t t1 t2 => ?_) p p1 p2
      by_cases e : t = i
      · subst e; exact h2 _ _ (Nat.le_refl _) (by omega) p4
      · exact h1 t q t1 (by omega) (by omega) p4
    · rw [P.2.1 q (by omega), P.2.1 p (by omega)]
      exact h2 p q (by omega) p2 p3
theorem ins_stable (K : Int → Int) {a b : Nat} {d : Array Int} (hab : a ≤ b) (hb : b ≤ d.size) (h : ∀ p q, a ≤ p → p < q → q < b → d[p]! < d[q]!) :
    Sort.PermIn a b d (Sort.insertionSort (ltOf (cvK K)) d a b) ∧ SrtT (TK K) a b (Sort.insertionSort (ltOf (cvK K)) d a b) := by
  have e : Sort.insertionSort (ltOf (cvK K)) d a b = Sort.insertionSort (ltK K) d a b := by
    unfold Sort.insertionSort
    exact insOuter_eq K a b _ (a + 1) d rfl (by omega) hb (fun p q h1 h2 h3 h4 => h p q h1 (by omega) h4) (fun p q h1 h2 h3 => h p q (by omega) h2 h3)
  rw [e]
  obtain ⟨P, S⟩ := Sort.insertionSort_holds (lt := ltK K) (swo_ltK K) d a b hab hb
  exact ⟨P, fun p q h1 h2 h3 => S p q h1 h2 h3⟩
structure Blks (K : Int → Int) (n k : Nat) (d : Array Int) : Prop where
  sz : d.size = n
  le : 20 * k ≤ n
  s : ∀ j, j < k → SrtT (TK K) (20 * j) (20 * j + 20) d
  v : ∀ p, p < 20 * k → d[p]! / 20 = (p : Int) / 20
  r : ∀ p, 20 * k ≤ p → p < n → d[p]! = p
theorem Blks.zero {K : Int → Int} {n : Nat} {d : Array Int} (hz : d.size = n) (h : ∀ p, p < n → d[p]! = (p : Int)) : Blks K n 0 d :=
  ⟨hz, by omega, fun j h => by omega, fun p h => by omega, fun p _ hp => h p hp⟩
theorem Blks.up {K : Int → Int} {n k : Nat} {d : Array Int} (h : Blks K n k d) (b : Nat) (h1 : 20 * k ≤ b) (hb : b ≤ n) :
    Sort.PermIn (20 * k) b d (Sort.insertionSort (ltOf (cvK K)) d (20 * k) b) ∧ SrtT (TK K) (20 * k) b (Sort.insertionSort (ltOf (cvK K)) d (20 * k) b) :=
  ins_stable K h1 (by have := h.sz; omega) (fun p q p1 p2 p3 => by rw [h.r p p1 (by omega), h.r q (by omega) (by omega)]; omega)
theorem Blks.next {K : Int → Int} {n k : Nat} {d d' : Array Int} (h : Blks K n k d) (hb : 20 * k + 20 ≤ n) (P : Sort.PermIn (20 * k) (20 * k + 20) d d') (S : SrtT (TK K) (20 * k) (20 * k + 20) d') : Blks K n (k + 1) d' := by
  have hz := h.sz
  refine ⟨P.1.trans h.sz, by omega, fun j hj => ?_, fun p hp => ?_, fun p p1 p2 => ?_⟩
  · by_cases e : j = k
    · subst e; exact S
    · exact (h.s j (by omega)).congr (fun t _ t2 => P.2.1 t (by omega))
  · by_cases c : p < 20 * k
    · rw [P.2.1 p (by omega)]; exact h.v p c
    · exact Sort.permIn_all d d' (20 * k) (20 * k + 20) (fun x => x / 20 = (p : Int) / 20) (by omega) P (fun t t1 t2 => by rw [h.r t t1 (by omega)]; omega) p (by omega) (by omega)
  · rw [P.2.1 p (by omega)]; exact h.r p (by omega) p2
structure Pre45 (K : Int → Int) (n : Nat) (d d2 : Array Int) : Prop where
  p : Sort.PermIn 0 n d d2
  small : n ≤ 20 → SrtT (TK K) 0 n d2
  big : 20 < n → MPre (ltOf (cvK K)) (TK K) 0 20 n d2
theorem Blks.pre {K : Int → Int} {n k : Nat} {d d1 d2 : Array Int} (h : Blks K n k d1) (hn : n ≤ 40) (hk : n < 20 * k + 20) (P0 : Sort.PermIn 0 n d d1) (P : Sort.PermIn (20 * k) n d1 d2) (S : SrtT (TK K) (20 * k) n d2) : Pre45 K n d d2 := by
  have hz := h.sz
  have hle := h.le
  have hz2 : d2.size = n := P.1.trans hz
  have V1 : ∀ p, p < n → p < 20 * k → d2[p]! / 20 = (p : Int) / 20 := fun p _ h2 => by rw [P.2.1 p (by omega)]; exact h.v p h2
  have V2 : ∀ p, p < n → 20 * k ≤ p → (20 * k : Int) ≤ d2[p]! := fun p h1 h2 => Sort.permIn_all d1 d2 (20 * k) n (fun x => (20 * k : Int) ≤ x) (by omega) P (fun t t1 t2 => by rw [h.r t t1 t2]; omega) p h2 h1
  have S1 : ∀ j, j < k → SrtT (TK K) (20 * j) (20 * j + 20) d2 := fun j hj => (h.s j hj).congr (fun t _ t2 => P.2.1 t (by omega))
  refine ⟨Sort.permIn_trans _ _ _ _ _ P0 (Sort.permIn_mono _ _ _ _ 0 n (by omega) (by omega) (by omega) P), fun c => ?_, fun c => ?_⟩
  · by_cases e : k = 0
    · subst e; exact S
    · have : k = 1 := by omega
      subst this
      have : n = 20 := by omega
      subst this
      exact S1 0 (by omega)
  · have hk1 : k = 1 ∨ k = 2 := by omega
    refine ⟨S1 0 (by omega), ?_, fun p q _ p2 q1 q2 => ?_⟩
    · rcases hk1 with e | e
      · subst e; exact S
      · subst e
        have : n = 40 := by omega
        subst this
        exact S1 1 (by omega)
    · have X : d2[p]! < d2[q]! := by
        have a1 := V1 p (by omega) (by omega)
        rcases hk1 with e | e
        · subst e
          have a2 := V2 q q2 (by omega)
          omega
        · subst e
          have a2 := V1 q q2 (by omega)
          omega
      refine ⟨fun hl => ?_, fun hl => ?_⟩
      · rw [ltOf_ltK K X] at hl
        exact (swo_ltK K).asymmA hl
      · rw [ltOf_ltK K X] at hl
        exact hl
end Go.Proofs.Ytbadelcnaeijkaa.Q
end
section
namespace Go.Proofs.Ytbadelcnaeijkaa.Q
open Go.RowKit Go.Proofs.YtbadelcnaeijkaaW.PrintWords Go.Proofs.YtbadelcnaeijkaaW.PrintLast Go.Proofs.YtbadelcnaeijkaaW.PrintMore
attribute [local go_sem] max2_int min2_int max_two min_two max_three min_three max_four min_four
attribute [local go_sem ↓] isSome_setCell
attribute [local go_sem] string_gtr
set_option linter.unusedVariables false
set_option linter.unusedSimpArgs false
set_option maxHeartbeats 16000000 in
set_option maxRecDepth 100000 in
theorem stable_walk (hSym : ∀ (gb : Nat) (cv : Int → Int → Int) (N : Int) (T : Int → Int → Prop), (∀ x y z, T x y → T y z → T x z) → ∀ (blk off cap n : Nat), SymAll gb cv N T blk off cap n) (gb : Nat) (K : Int → Int) (blk off cap n : Nat) (d : Array Int) (w : World) (hH : Sort.Holds (Value.int .i64) w blk off d) (hz : d.size = n) (hn : n ≤ 40)
    (hI : ∀ p, p < n → d[p]! = (p : Int)) (hC : CmpOk gb (cvK K) n w blk) :
    Calls Try.prog 45 #[.slice (some ⟨blk, off, none⟩) n cap, .int .i64 n, .func (.func 35) #[] #[.pointer (some ⟨gb, 0, none⟩)]] w (SymPost (TK K) blk off 0 n d w) := by
  have hR : InR n d := fun t ht => by rw [hI t (by omega)]; omega
  have HC := Aside0.mk hC
  have HR := Aside0.mk hR
  have HH := Aside0.mk hH
  have HI := Aside0.mk (Blks.zero (K := K) hz hI)
  have HZ := Aside0.mk hz
  have INS : Aside0 (∀ (a b : Nat) (d1 : Array Int) (W : World), AtRow w blk off W d1 → Sort.PermIn 0 n d d1 → a ≤ b → b ≤ n →
      Calls Try.prog 51 #[.slice (some ⟨blk, off, none⟩) n cap, .int .i64 a, .int .i64 b, .func (.func 35) #[] #[.pointer (some ⟨gb, 0, none⟩)]] W fun e w' => e = .returned (.tuple #[]) ∧ AtRow W blk off w' (Sort.insertionSort (ltOf (cvK K)) d1 a b)) :=
    ⟨fun a b d1 W hW hP h1 h2 => by
      have hz1 : d1.size = n := hP.1.trans hz
      have := ins_walk gb (cvK K) n blk off cap a b d1 W (hW.holds hH hP.1) h1 (by omega) (by omega) (hR.perm hP (by omega)) (hC.at hW.side)
      rw [hz1] at this
      exact this⟩
  have SYM : Aside0 (∀ (m b : Nat) (d1 : Array Int) (W : World), AtRow w blk off W d1 → Sort.PermIn 0 n d d1 → 0 < m → m < b → b = n → MPre (ltOf (cvK K)) (TK K) 0 m b d1 →
      Calls Try.prog 52 #[.slice (some ⟨blk, off, none⟩) n cap, .int .i64 0, .int .i64 m, .int .i64 b, .func (.func 35) #[] #[.pointer (some ⟨gb, 0, none⟩)]] W (SymPost (TK K) blk off 0 b d1 W)) :=
    ⟨fun m b d1 W hW hP h1 h2 h3 hM => by
      have hz1 : d1.size = n := hP.1.trans hz
      exact hSym gb (cvK K) n (TK K) (TK_trans K) blk off cap b 0 m b d1 W (by omega) (hW.holds hH hP.1) h1 h2 (by omega) (by omega) (hR.perm hP (by omega)) (hC.at hW.side) hM n hz1.symm⟩
  clear hC hR hH hz hI hSym
  go_enter Try.func45, Try.ntmps45
  go_wp2
  go_loopw [7, 8] (fun va vb wr => ∃ (k : Nat) (dk : Array Int), va = .int .i64 (20 * k : Nat) ∧ vb = .int .i64 (20 * k + 20 : Nat) ∧ 20 * k ≤ n ∧ AtRow w blk off wr dk ∧ Aside0 (Blks K n k dk) ∧ Aside0 (Sort.PermIn 0 n d dk)) (fun va _ _ => 100 - (Proofs.intOf va).toNat)
  case atStart => exact ⟨0, d, by go_num, by go_num, by omega, AtRow.self HH.out, HI, ⟨Sort.permIn_refl _ _ _⟩⟩
  case round =>
    obtain ⟨k, dk, rfl, rfl, hkn, hA, HB, HP⟩ := hrel
    have HA := Aside0.mk hA
    clear hA
    by_cases c : 20 * k + 20 ≤ n
    · go_wp2_with (go_at_call 51; refine (INS.out (20 * k) (20 * k + 20) dk _ HA.out HP.out (by omega) c).mono ?_; rintro e w5 ⟨rfl, hA5⟩; have HA5 := Aside0.mk hA5; clear hA5)
      go_roundw
      case rel =>
        obtain ⟨P, S⟩ := HB.out.up (20 * k + 20) (by omega) c
        exact ⟨k + 1, _, by go_num, by go_num, by omega, HA.out.trans HA5.out P.1, ⟨HB.out.next c P S⟩, ⟨Sort.permIn_trans _ _ _ _ _ HP.out (Sort.permIn_mono _ _ _ _ 0 n (by omega) (by omega) (by have := HB.out.sz; omega) P)⟩⟩
      case measure => simp [Proofs.intOf]; omega
    · go_wp2_with (go_at_call 51; refine (INS.out (20 * k) n dk _ HA.out HP.out hkn (Nat.le_refl _)).mono ?_; rintro e w5 ⟨rfl, hA5⟩; have HA5 := Aside0.mk hA5; clear hA5)
      have PRE : Aside0 (∃ d2, AtRow w blk off w5 d2 ∧ Pre45 K n d d2) := ⟨by
        obtain ⟨P, S⟩ := HB.out.up n hkn (Nat.le_refl _)
        exact ⟨_, HA.out.trans HA5.out P.1, HB.out.pre hn (by omega) HP.out P S⟩⟩
      clear HA5 HB HP HA INS
      obtain ⟨⟨d2, hA2, hP2⟩⟩ := PRE
      have HA2 := Aside0.mk hA2
      have HP2 := Aside0.mk hP2
      clear hA2 hP2
      by_cases c20 : n ≤ 20
      · go_loopw [6] (fun va wr => va = .int .i64 20 ∧ wr = w5) (fun va _ => 100 - (Proofs.intOf va).toNat)
        case atStart => exact ⟨rfl, rfl⟩
        case round =>
          obtain ⟨rfl, rfl⟩ := hrel
          go_wp2
          go_end0
          exact ⟨rfl, d2, HA2.out, HP2.out.p, HP2.out.small c20⟩
      · go_loopw [6] (fun va wr => (va = .int .i64 20 ∧ wr = w5) ∨ (va = .int .i64 40 ∧ Aside0 (∃ d3, AtRow w blk off wr d3 ∧ Sort.PermIn 0 n d d3 ∧ SrtT (TK K) 0 n d3))) (fun va _ => 100 - (Proofs.intOf va).toNat)
        case atStart => exact .inl ⟨rfl, rfl⟩
        case round =>
          rcases hrel with ⟨rfl, rfl⟩ | ⟨rfl, hfin⟩
          · have hP := HP2.out.p
            have hB := HP2.out.big (by omega)
            by_cases c40 : n = 40
            · have SY : Aside0 (Calls Try.prog 52 #[.slice (some ⟨blk, off, none⟩) n cap, .int .i64 0, .int .i64 20, .int .i64 40, .func (.func 35) #[] #[.pointer (some ⟨gb, 0, none⟩)]] wr (SymPost (TK K) blk off 0 n d2 wr)) := ⟨by have := SYM.out 20 n d2 wr HA2.out hP (by omega) (by omega) rfl hB; rw [show ((n : Nat) : Int) = 40 by omega] at this; exact this⟩
              have c40a : 40 ≤ n := by omega
              have c20b : decide ((20 : Int) < n) = true := decide_eq_true (by omega)
              clear c40
              clear hB hP
              go_wp2
              go_loopw [7, 8] (fun va vb wq => (va = .int .i64 0 ∧ vb = .int .i64 40 ∧ wq = wr) ∨ (va = .int .i64 40 ∧ vb = .int .i64 80 ∧ Aside0 (∃ d3, AtRow w blk off wq d3 ∧ Sort.PermIn 0 n d d3 ∧ SrtT (TK K) 0 n d3))) (fun va _ _ => 100 - (Proofs.intOf va).toNat)
              case atStart => exact .inl ⟨rfl, rfl, rfl⟩
              case round =>
                rcases hrel with ⟨rfl, rfl, rfl⟩ | ⟨rfl, rfl, hfin⟩
                · go_wp2_with (go_at_call 52; refine SY.out.mono ?_; rintro e w5 ⟨rfl, d3, hA3, hP3, hS3⟩; have hfin : Aside0 (∃ d3, AtRow w blk off w5 d3 ∧ Sort.PermIn 0 n d d3 ∧ SrtT (TK K) 0 n d3) := ⟨d3, HA2.out.trans hA3 hP3.1, Sort.permIn_trans _ _ _ _ _ HP2.out.p hP3, hS3⟩; clear hA3 hP3 hS3)
                  go_roundw
                  case rel => exact .inr ⟨rfl, rfl, hfin⟩
                  case measure => simp [Proofs.intOf]
                · go_wp2
                  go_roundw
                  case rel => exact .inr ⟨rfl, hfin⟩
                  case measure => simp [Proofs.intOf]
            · have SY := Aside0.mk (SYM.out 20 n d2 wr HA2.out hP (by omega) (by omega) rfl hB)
              have c20b : decide ((20 : Int) < n) = true := decide_eq_true (by omega)
              clear hB hP
              go_wp2
              go_loopw [7, 8] (fun va vb wq => va = .int .i64 0 ∧ vb = .int .i64 40 ∧ wq = wr) (fun va _ _ => 100 - (Proofs.intOf va).toNat)
              case atStart => exact ⟨rfl, rfl, rfl⟩
              case round =>
                obtain ⟨rfl, rfl, rfl⟩ := hrel
                go_wp2_with (go_at_call 52; refine SY.out.mono ?_; rintro e w5 ⟨rfl, d3, hA3, hP3, hS3⟩; have hfin : Aside0 (∃ d3, AtRow w blk off w5 d3 ∧ Sort.PermIn 0 n d d3 ∧ SrtT (TK K) 0 n d3) := ⟨d3, HA2.out.trans hA3 hP3.1, Sort.permIn_trans _ _ _ _ _ HP2.out.p hP3, hS3⟩; clear hA3 hP3 hS3)
                go_roundw
                case rel => exact .inr ⟨rfl, hfin⟩
                case measure => simp [Proofs.intOf]
          · go_wp2
            go_end0
            exact ⟨rfl, hfin.out⟩
end Go.Proofs.Ytbadelcnaeijkaa.Q
end
section
namespace Go.Proofs.Ytbadelcnaeijkaa.Q
open Go.RowKit Go.Proofs.YtbadelcnaeijkaaW.PrintWords Go.Proofs.YtbadelcnaeijkaaW.PrintLast Go.Proofs.YtbadelcnaeijkaaW.PrintMore
attribute [local go_sem] max2_int min2_int max_two min_two max_three min_three max_four min_four
attribute [local go_sem ↓] isSome_setCell
attribute [local go_sem] string_gtr
set_option linter.unusedVariables false
set_option linter.unusedSimpArgs false
set_option maxHeartbeats 16000000 in
set_option maxRecDepth 100000 in
theorem sym_half1 (gb : Nat) (cv : Int → Int → Int) (N : Int) (T : Int → Int → Prop) (hT : ∀ x y z, T x y → T y z → T x z) (blk off cap : Nat) (n : Nat) (ih : SymAll gb cv N T blk off cap n) (a m b : Nat) (hc1 : ¬ m = a + 1) (hc2 : ¬ b = m + 1) (c1 : (a + b) / 2 < m) (d : Array Int) (w : World) : b - a ≤ n + 1 → Sort.Holds (Value.int .i64) w blk off d → a < m → m < b → b ≤ d.size → d.size < 1000000000 →
    InR N d → CmpOk gb cv N w blk → MPre (ltOf cv) T a m b d → ∀ sz : Nat, sz = d.size →
    Calls Try.prog 52 #[.slice (some ⟨blk, off, none⟩) sz cap, .int .i64 a, .int .i64 m, .int .i64 b, .func (.func 35) #[] #[.pointer (some ⟨gb, 0, none⟩)]] w (SymPost T blk off a b d w) := by
    intro hn hH ham hmb hb hsz hR hC hP sz hsz2
    subst hsz2
    unfold SymAll at ih
    have IH := Aside0.mk ih
    have HC := Aside0.mk hC
    have HR := Aside0.mk hR
    have HH := Aside0.mk hH
    have HP := Aside0.mk hP
    have HT := Aside0.mk hT
    have HN := Aside0.mk hn
    have h1 : a + 1 < m := by omega
    have h2 : m + 1 < b := by omega
    obtain ⟨mid, hmid⟩ : ∃ mid : Nat, mid = (a + b) / 2 := ⟨_, rfl⟩
    have hmb1 : a < mid ∧ mid < b := by omega
    have c0 : mid < m := hmid ▸ c1
    clear c1
    obtain ⟨s0, r0, hs1, hs2, hs3, hs4, hs5, hs6, hs7, hs8, hs9⟩ := sym_start h1 h2 hmid
    have e1 : Aside0 (((a : Int) + b) / 2 = mid) := ⟨by omega⟩
    have HS8 := Aside0.mk hs8
    have HS9 := Aside0.mk hs9
    have hme : ((m : Int) - (a : Int) == 1) = false := beq_eq_false_iff_ne.2 (by omega)
    have hme2 : ((b : Int) - (m : Int) == 1) = false := beq_eq_false_iff_ne.2 (by omega)
    clear hC hR hH hP hT ih hn hc1 hc2 hmid hs8 hs9
    have HE0 := Aside0.mk (hs1 c0)
    have HC0 := Aside0.mk c0
    clear hs1 hs2
    go_enter Try.func52, Try.ntmps52
    go_wp2_with ((with_reducible refine gate_dst (N := 133) rfl ?_); refine wp_half ?hg (Operand.tmp 132) ?hop ((a : Int) + b) (mid : Int) ?hn ?hx e1.out ?_; (case hg => rfl); (case hop => rfl); (case hn => omega); (case hx => first | (go_simp; done) | (go_simp; rfl)))
    clear hme hme2
    go_loopw [20, 21] (fun vi vj wr => ∃ (s r : Nat), vi = .int .i64 s ∧ vj = .int .i64 r ∧ s0 ≤ s ∧ s ≤ r ∧ r ≤ r0 ∧ AtRow w blk off wr d ∧ (∀ q, s0 ≤ q → q < s → T d[q]! d[mid + m - 1 - q]!) ∧ (∀ q, r ≤ q → q < r0 → T d[mid + m - 1 - q]! d[q]!)) (fun vi vj _ => (Proofs.intOf vj).toNat - (Proofs.intOf vi).toNat)
    case atStart => exact ⟨s0, r0, by have := HE0.out; congr 1; omega, by have := HE0.out; congr 1; omega, by omega, by omega, by omega, AtRow.self HH.out, fun q h1 h2 => by omega, fun q h1 h2 => by omega⟩
    case round =>
      obtain ⟨s, r, rfl, rfl, hi, hij, hj, hA, hL, hU⟩ := hrel
      have HA := Aside0.mk hA
      have HL := Aside0.mk hL
      have HU := Aside0.mk hU
      clear hA hL hU
      by_cases c : s < r
      · obtain ⟨G, hG⟩ : ∃ G : Nat → Int, ∀ t, G t = d[t]! := ⟨fun t => d[t]!, fun _ => rfl⟩
        obtain ⟨hcw, hfw⟩ := HA.out.cells HH.out rfl
        have HG : Hid (∀ t, G t = d[t]!) := hG
        simp only [← hG] at hcw
        clear hG
        obtain ⟨h, hh⟩ : ∃ h : Nat, h = (s + r) / 2 := ⟨_, rfl⟩
        have hb1 : s ≤ h ∧ h < r := by omega
        have HQ := fun n => Aside0.mk (HC.out (G (mid + m - 1 - h)) (G h) (by rw [HG]; exact HR.out _ (by omega)) (by rw [HG]; exact HR.out _ (by omega)) (wr.drewN n) HA.out.side)
        have e2 : Aside0 (((s : Int) + r) / 2 = h) := ⟨by omega⟩
        clear hh
        go_wp2_with ((with_reducible refine gate_dst (N := 156) rfl ?_); refine wp_half ?hg (Operand.tmp 155) ?hop ((s : Int) + r) (h : Int) ?hn ?hx e2.out ?_; (case hg => rfl); (case hop => rfl); (case hn => omega); (case hx => first | (go_simp; done) | (go_simp; rfl)))
        by_cases hl : cv (G (mid + m - 1 - h)) (G h) < 0
        · have X := (HP.out.x h (mid + m - 1 - h) (by omega) (by omega) (by omega) (by omega)).1 (by rw [← HG.out, ← HG.out]; exact decide_eq_true hl)
          have HX := Aside0.mk X
          clear X
          have hld : decide (cv (G (mid + m - 1 - h)) (G h) < 0) = true := decide_eq_true hl
          go_quiet (first | (go_at_call 35; refine Calls.quiet_of (HQ _).out))
          go_wp2
          go_roundw
          case rel => exact ⟨s, h, rfl, rfl, by omega, by omega, by omega, HA.out.drewN nq, HL.out, fun q h1 h2 => if e : q = h then e ▸ HX.out else HT.out _ _ _ (HT.out _ _ _ (HP.out.s2 _ _ (by omega) (by omega) (by omega)) HX.out) (HP.out.s1 h q (by omega) (by omega) (by omega))⟩
          case measure => simp [Proofs.intOf]; omega
        · have X := (HP.out.x h (mid + m - 1 - h) (by omega) (by omega) (by omega) (by omega)).2 (by rw [← HG.out, ← HG.out]; exact decide_eq_false hl)
          have HX := Aside0.mk X
          clear X
          have hld : decide (cv (G (mid + m - 1 - h)) (G h) < 0) = false := decide_eq_false hl
          go_quiet (first | (go_at_call 35; refine Calls.quiet_of (HQ _).out))
          go_wp2
          go_roundw
          case rel => exact ⟨h + 1, r, by go_num, rfl, by omega, by omega, by omega, HA.out.drewN nq, fun q h1 h2 => if e : q = h then e ▸ HX.out else HT.out _ _ _ (HT.out _ _ _ (HP.out.s1 q h (by omega) (by omega) (by omega)) HX.out) (HP.out.s2 _ _ (by omega) (by omega) (by omega)), HU.out⟩
          case measure => simp [Proofs.intOf]; omega
      · have e0 : s = r := by omega
        subst e0
        obtain ⟨C1, C2⟩ := sym_cross HT.out HP.out hs3 hi hj hs5 hs6 hs7 HS8.out HS9.out HL.out HU.out
        have SA := Aside0.mk (SymAt.mk HP.out C1 C2 (by omega) (by omega) (by omega) (by omega) hb hmb1)
        have EE : Aside0 (((mid : Int) + m - s) = ((mid + m - s : Nat) : Int)) := ⟨by omega⟩
        clear C1 C2
        have LOW : Aside0 (∀ d1 W, IsRot d s m (mid + m - s) d1 → Sort.PermIn a b d d1 → AtRow w blk off W d1 → a < s → s < mid → Calls Try.prog 52 #[.slice (some ⟨blk, off, none⟩) d.size cap, .int .i64 a, .int .i64 s, .int .i64 mid, .func (.func 35) #[] #[.pointer (some ⟨gb, 0, none⟩)]] W (SymPost T blk off a mid d1 W)) :=
          ⟨fun d1 W r p hW c1 c2 => IH.out a s mid d1 W (by have := HN.out; omega) (hW.holds HH.out r.1) c1 c2 (by have := r.1; omega) (by have := r.1; omega) (HR.out.perm p hb) (HC.out.at hW.side) (SA.out.low r) d.size r.1.symm⟩
        have HIGH : Aside0 (∀ d1 d2 W, IsRot d s m (mid + m - s) d1 → Sort.PermIn a b d d1 → Sort.PermIn a mid d1 d2 → AtRow w blk off W d2 → mid < mid + m - s → mid + m - s < b → Calls Try.prog 52 #[.slice (some ⟨blk, off, none⟩) d.size cap, .int .i64 mid, .int .i64 ((mid : Int) + m - s), .int .i64 b, .func (.func 35) #[] #[.pointer (some ⟨gb, 0, none⟩)]] W (SymPost T blk off mid b d2 W)) :=
          ⟨fun d1 d2 W r p p1 hW c1 c2 => by
            rw [EE.out]
            exact IH.out mid (mid + m - s) b d2 W (by have := HN.out; omega) (hW.holds HH.out (p1.1.trans r.1)) c1 c2 (by have := r.1; have := p1.1; omega) (by have := r.1; have := p1.1; omega) ((HR.out.perm p hb).perm p1 (by have := r.1; omega)) (HC.out.at hW.side) ((SA.out.high r).congr ⟨by omega, by omega⟩ (fun k h1 _ => p1.2.1 k (.inr h1))) d.size (p1.1.trans r.1).symm⟩
        have ROT : Aside0 (s < m → m < mid + m - s → Calls Try.prog 56 #[.slice (some ⟨blk, off, none⟩) d.size cap, .int .i64 s, .int .i64 m, .int .i64 ((mid : Int) + m - s), .func (.func 35) #[] #[.pointer (some ⟨gb, 0, none⟩)]] wr (fun e w' => e = .returned (.tuple #[]) ∧ ∃ d', AtRow wr blk off w' d' ∧ IsRot d s m (mid + m - s) d' ∧ Sort.PermIn s (mid + m - s) d d')) :=
          ⟨fun c1 c2 => by
            rw [EE.out]
            exact rot_walk _ blk off cap s m (mid + m - s) d wr (HA.out.holds HH.out rfl) c1 c2 (by omega) (by omega)⟩
        have BB : mid + m - s ≤ b ∧ a ≤ s ∧ s ≤ m ∧ s ≤ mid := by omega
        clear HL HU
        by_cases hx : s < m ∧ m < mid + m - s
        · obtain ⟨x1, x2⟩ := hx
          by_cases hy : a < s ∧ s < mid
          · obtain ⟨y1, y2⟩ := hy
            by_cases hz : mid < mid + m - s ∧ mid + m - s < b
            · obtain ⟨z1, z2⟩ := hz
              go_wp2_with (first | (go_at_call 56; refine (ROT.out x1 x2).mono ?_; rintro e w5 ⟨rfl, d1, hA, hRt, hPp⟩; have HA1 := Aside0.mk (HA.out.trans hA hRt.1); have HR1 := Aside0.mk hRt; have HP1 := Aside0.mk (Sort.permIn_mono _ _ _ _ a b (by omega) (by omega) (by have := hRt.1; omega) hPp); clear hA hRt hPp) | (go_at_call 52; refine (HIGH.out _ _ _ HR1.out HP1.out HP2.out HA2.out z1 z2).mono ?_; rintro e w7 ⟨rfl, d3, hA, hPp, hS⟩; have HA3 := Aside0.mk (HA2.out.trans hA hPp.1); have HP3 := Aside0.mk hPp; have HS3 := Aside0.mk hS; clear hA hPp hS) | (go_at_call 52; refine (LOW.out _ _ HR1.out HP1.out HA1.out y1 y2).mono ?_; rintro e w6 ⟨rfl, d2, hA, hPp, hS⟩; have HA2 := Aside0.mk (HA1.out.trans hA hPp.1); have HP2 := Aside0.mk hPp; have HS2 := Aside0.mk hS; clear hA hPp hS))
              all_goals first | (exfalso; omega) | (go_end0; exact ⟨rfl, _, HA3.out, SA.out.fin HR1.out HP1.out HP2.out HS2.out HP3.out HS3.out⟩)
            · have HZ := Aside0.mk hz
              go_wp2_with (first | (go_at_call 56; refine (ROT.out x1 x2).mono ?_; rintro e w5 ⟨rfl, d1, hA, hRt, hPp⟩; have HA1 := Aside0.mk (HA.out.trans hA hRt.1); have HR1 := Aside0.mk hRt; have HP1 := Aside0.mk (Sort.permIn_mono _ _ _ _ a b (by omega) (by omega) (by have := hRt.1; omega) hPp); clear hA hRt hPp) | (go_at_call 52; refine (LOW.out _ _ HR1.out HP1.out HA1.out y1 y2).mono ?_; rintro e w6 ⟨rfl, d2, hA, hPp, hS⟩; have HA2 := Aside0.mk (HA1.out.trans hA hPp.1); have HP2 := Aside0.mk hPp; have HS2 := Aside0.mk hS; clear hA hPp hS))
              all_goals first | (exfalso; omega) | (go_end0; exact ⟨rfl, _, HA2.out, SA.out.fin HR1.out HP1.out HP2.out HS2.out (Sort.permIn_refl _ _ _) (SA.out.high0 HR1.out HP2.out HZ.out)⟩)
          · have HY := Aside0.mk hy
            by_cases hz : mid < mid + m - s ∧ mid + m - s < b
            · obtain ⟨z1, z2⟩ := hz
              go_wp2_with (first | (go_at_call 56; refine (ROT.out x1 x2).mono ?_; rintro e w5 ⟨rfl, d1, hA, hRt, hPp⟩; have HA1 := Aside0.mk (HA.out.trans hA hRt.1); have HR1 := Aside0.mk hRt; have HP1 := Aside0.mk (Sort.permIn_mono _ _ _ _ a b (by omega) (by omega) (by have := hRt.1; omega) hPp); clear hA hRt hPp) | (go_at_call 52; refine (HIGH.out _ _ _ HR1.out HP1.out (Sort.permIn_refl _ _ _) HA1.out z1 z2).mono ?_; rintro e w7 ⟨rfl, d3, hA, hPp, hS⟩; have HA3 := Aside0.mk (HA1.out.trans hA hPp.1); have HP3 := Aside0.mk hPp; have HS3 := Aside0.mk hS; clear hA hPp hS))
              all_goals first | (exfalso; omega) | (go_end0; exact ⟨rfl, _, HA3.out, SA.out.fin HR1.out HP1.out (Sort.permIn_refl _ _ _) (SA.out.low0 HR1.out HY.out) HP3.out HS3.out⟩)
            · have HZ := Aside0.mk hz
              go_wp2_with (first | (go_at_call 56; refine (ROT.out x1 x2).mono ?_; rintro e w5 ⟨rfl, d1, hA, hRt, hPp⟩; have HA1 := Aside0.mk (HA.out.trans hA hRt.1); have HR1 := Aside0.mk hRt; have HP1 := Aside0.mk (Sort.permIn_mono _ _ _ _ a b (by omega) (by omega) (by have := hRt.1; omega) hPp); clear hA hRt hPp))
              all_goals first | (exfalso; omega) | (go_end0; exact ⟨rfl, _, HA1.out, SA.out.fin HR1.out HP1.out (Sort.permIn_refl _ _ _) (SA.out.low0 HR1.out HY.out) (Sort.permIn_refl _ _ _) (SA.out.high0 HR1.out (Sort.permIn_refl _ _ _) HZ.out)⟩)
        · have HR1 := Aside0.mk (IsRot.none d (s := s) (m := m) (e := mid + m - s) (by omega) (by omega) (by omega))
          have HP1 := Aside0.mk (Sort.permIn_refl d a b)
          have HA1 := HA
          by_cases hy : a < s ∧ s < mid
          · obtain ⟨y1, y2⟩ := hy
            by_cases hz : mid < mid + m - s ∧ mid + m - s < b
            · obtain ⟨z1, z2⟩ := hz
              go_wp2_with (first | (go_at_call 52; refine (HIGH.out _ _ _ HR1.out HP1.out HP2.out HA2.out z1 z2).mono ?_; rintro e w7 ⟨rfl, d3, hA, hPp, hS⟩; have HA3 := Aside0.mk (HA2.out.trans hA hPp.1); have HP3 := Aside0.mk hPp; have HS3 := Aside0.mk hS; clear hA hPp hS) | (go_at_call 52; refine (LOW.out _ _ HR1.out HP1.out HA1.out y1 y2).mono ?_; rintro e w6 ⟨rfl, d2, hA, hPp, hS⟩; have HA2 := Aside0.mk (HA1.out.trans hA hPp.1); have HP2 := Aside0.mk hPp; have HS2 := Aside0.mk hS; clear hA hPp hS))
              all_goals first | (exfalso; omega) | (go_end0; exact ⟨rfl, _, HA3.out, SA.out.fin HR1.out HP1.out HP2.out HS2.out HP3.out HS3.out⟩)
            · have HZ := Aside0.mk hz
              go_wp2_with (first | (go_at_call 52; refine (LOW.out _ _ HR1.out HP1.out HA1.out y1 y2).mono ?_; rintro e w6 ⟨rfl, d2, hA, hPp, hS⟩; have HA2 := Aside0.mk (HA1.out.trans hA hPp.1); have HP2 := Aside0.mk hPp; have HS2 := Aside0.mk hS; clear hA hPp hS))
              all_goals first | (exfalso; omega) | (go_end0; exact ⟨rfl, _, HA2.out, SA.out.fin HR1.out HP1.out HP2.out HS2.out (Sort.permIn_refl _ _ _) (SA.out.high0 HR1.out HP2.out HZ.out)⟩)
          · have HY := Aside0.mk hy
            by_cases hz : mid < mid + m - s ∧ mid + m - s < b
            · obtain ⟨z1, z2⟩ := hz
              go_wp2_with (first | (go_at_call 52; refine (HIGH.out _ _ _ HR1.out HP1.out (Sort.permIn_refl _ _ _) HA1.out z1 z2).mono ?_; rintro e w7 ⟨rfl, d3, hA, hPp, hS⟩; have HA3 := Aside0.mk (HA1.out.trans hA hPp.1); have HP3 := Aside0.mk hPp; have HS3 := Aside0.mk hS; clear hA hPp hS))
              all_goals first | (exfalso; omega) | (go_end0; exact ⟨rfl, _, HA3.out, SA.out.fin HR1.out HP1.out (Sort.permIn_refl _ _ _) (SA.out.low0 HR1.out HY.out) HP3.out HS3.out⟩)
            · have HZ := Aside0.mk hz
              go_wp2
              all_goals first | (exfalso; omega) | (go_end0; exact ⟨rfl, _, HA1.out, SA.out.fin HR1.out HP1.out (Sort.permIn_refl _ _ _) (SA.out.low0 HR1.out HY.out) (Sort.permIn_refl _ _ _) (SA.out.high0 HR1.out (Sort.permIn_refl _ _ _) HZ.out)⟩)
end Go.Proofs.Ytbadelcnaeijkaa.Q
end
section
namespace Go.Proofs.Ytbadelcnaeijkaa.Q
open Go.RowKit Go.Proofs.YtbadelcnaeijkaaW.PrintWords Go.Proofs.YtbadelcnaeijkaaW.PrintLast Go.Proofs.YtbadelcnaeijkaaW.PrintMore
attribute [local go_sem] max2_int min2_int max_two min_two max_three min_three max_four min_four
attribute [local go_sem ↓] isSome_setCell
attribute [local go_sem] string_gtr
set_option linter.unusedVariables false
set_option linter.unusedSimpArgs false
set_option maxHeartbeats 16000000 in
set_option maxRecDepth 100000 in
theorem sym_half2 (gb : Nat) (cv : Int → Int → Int) (N : Int) (T : Int → Int → Prop) (hT : ∀ x y z, T x y → T y z → T x z) (blk off cap : Nat) (n : Nat) (ih : SymAll gb cv N T blk off cap n) (a m b : Nat) (hc1 : ¬ m = a + 1) (hc2 : ¬ b = m + 1) (c1 : ¬ (a + b) / 2 < m) (d : Array Int) (w : World) : b - a ≤ n + 1 → Sort.Holds (Value.int .i64) w blk off d → a < m → m < b → b ≤ d.size → d.size < 1000000000 →
    InR N d → CmpOk gb cv N w blk → MPre (ltOf cv) T a m b d → ∀ sz : Nat, sz = d.size →
    Calls Try.prog 52 #[.slice (some ⟨blk, off, none⟩) sz cap, .int .i64 a, .int .i64 m, .int .i64 b, .func (.func 35) #[] #[.pointer (some ⟨gb, 0, none⟩)]] w (SymPost T blk off a b d w) := by
    intro hn hH ham hmb hb hsz hR hC hP sz hsz2
    subst hsz2
    unfold SymAll at ih
    have IH := Aside0.mk ih
    have HC := Aside0.mk hC
    have HR := Aside0.mk hR
    have HH := Aside0.mk hH
    have HP := Aside0.mk hP
    have HT := Aside0.mk hT
    have HN := Aside0.mk hn
    have h1 : a + 1 < m := by omega
    have h2 : m + 1 < b := by omega
    obtain ⟨mid, hmid⟩ : ∃ mid : Nat, mid = (a + b) / 2 := ⟨_, rfl⟩
    have hmb1 : a < mid ∧ mid < b := by omega
    have c0 : ¬ mid < m := hmid ▸ c1
    clear c1
    obtain ⟨s0, r0, hs1, hs2, hs3, hs4, hs5, hs6, hs7, hs8, hs9⟩ := sym_start h1 h2 hmid
    have e1 : Aside0 (((a : Int) + b) / 2 = mid) := ⟨by omega⟩
    have HS8 := Aside0.mk hs8
    have HS9 := Aside0.mk hs9
    have hme : ((m : Int) - (a : Int) == 1) = false := beq_eq_false_iff_ne.2 (by omega)
    have hme2 : ((b : Int) - (m : Int) == 1) = false := beq_eq_false_iff_ne.2 (by omega)
    clear hC hR hH hP hT ih hn hc1 hc2 hmid hs8 hs9
    have HE0 := Aside0.mk (hs2 c0)
    have HC0 := Aside0.mk c0
    clear hs1 hs2
    go_enter Try.func52, Try.ntmps52
    go_wp2_with ((with_reducible refine gate_dst (N := 133) rfl ?_); refine wp_half ?hg (Operand.tmp 132) ?hop ((a : Int) + b) (mid : Int) ?hn ?hx e1.out ?_; (case hg => rfl); (case hop => rfl); (case hn => omega); (case hx => first | (go_simp; done) | (go_simp; rfl)))
    clear hme hme2
    go_loopw [20, 21] (fun vi vj wr => ∃ (s r : Nat), vi = .int .i64 s ∧ vj = .int .i64 r ∧ s0 ≤ s ∧ s ≤ r ∧ r ≤ r0 ∧ AtRow w blk off wr d ∧ (∀ q, s0 ≤ q → q < s → T d[q]! d[mid + m - 1 - q]!) ∧ (∀ q, r ≤ q → q < r0 → T d[mid + m - 1 - q]! d[q]!)) (fun vi vj _ => (Proofs.intOf vj).toNat - (Proofs.intOf vi).toNat)
    case atStart => exact ⟨s0, r0, by have := HE0.out; congr 1; omega, by have := HE0.out; congr 1; omega, by omega, by omega, by omega, AtRow.self HH.out, fun q h1 h2 => by omega, fun q h1 h2 => by omega⟩
    case round =>
      obtain ⟨s, r, rfl, rfl, hi, hij, hj, hA, hL, hU⟩ := hrel
      have HA := Aside0.mk hA
      have HL := Aside0.mk hL
      have HU := Aside0.mk hU
      clear hA hL hU
      by_cases c : s < r
      · obtain ⟨G, hG⟩ : ∃ G : Nat → Int, ∀ t, G t = d[t]! := ⟨fun t => d[t]!, fun _ => rfl⟩
        obtain ⟨hcw, hfw⟩ := HA.out.cells HH.out rfl
        have HG : Hid (∀ t, G t = d[t]!) := hG
        simp only [← hG] at hcw
        clear hG
        obtain ⟨h, hh⟩ : ∃ h : Nat, h = (s + r) / 2 := ⟨_, rfl⟩
        have hb1 : s ≤ h ∧ h < r := by omega
        have HQ := fun n => Aside0.mk (HC.out (G (mid + m - 1 - h)) (G h) (by rw [HG]; exact HR.out _ (by omega)) (by rw [HG]; exact HR.out _ (by omega)) (wr.drewN n) HA.out.side)
        have e2 : Aside0 (((s : Int) + r) / 2 = h) := ⟨by omega⟩
        clear hh
        go_wp2_with ((with_reducible refine gate_dst (N := 156) rfl ?_); refine wp_half ?hg (Operand.tmp 155) ?hop ((s : Int) + r) (h : Int) ?hn ?hx e2.out ?_; (case hg => rfl); (case hop => rfl); (case hn => omega); (case hx => first | (go_simp; done) | (go_simp; rfl)))
        by_cases hl : cv (G (mid + m - 1 - h)) (G h) < 0
        · have X := (HP.out.x h (mid + m - 1 - h) (by omega) (by omega) (by omega) (by omega)).1 (by rw [← HG.out, ← HG.out]; exact decide_eq_true hl)
          have HX := Aside0.mk X
          clear X
          have hld : decide (cv (G (mid + m - 1 - h)) (G h) < 0) = true := decide_eq_true hl
          go_quiet (first | (go_at_call 35; refine Calls.quiet_of (HQ _).out))
          go_wp2
          go_roundw
          case rel => exact ⟨s, h, rfl, rfl, by omega, by omega, by omega, HA.out.drewN nq, HL.out, fun q h1 h2 => if e : q = h then e ▸ HX.out else HT.out _ _ _ (HT.out _ _ _ (HP.out.s2 _ _ (by omega) (by omega) (by omega)) HX.out) (HP.out.s1 h q (by omega) (by omega) (by omega))⟩
          case measure => simp [Proofs.intOf]; omega
        · have X := (HP.out.x h (mid + m - 1 - h) (by omega) (by omega) (by omega) (by omega)).2 (by rw [← HG.out, ← HG.out]; exact decide_eq_false hl)
          have HX := Aside0.mk X
          clear X
          have hld : decide (cv (G (mid + m - 1 - h)) (G h) < 0) = false := decide_eq_false hl
          go_quiet (first | (go_at_call 35; refine Calls.quiet_of (HQ _).out))
          go_wp2
          go_roundw
          case rel => exact ⟨h + 1, r, by go_num, rfl, by omega, by omega, by omega, HA.out.drewN nq, fun q h1 h2 => if e : q = h then e ▸ HX.out else HT.out _ _ _ (HT.out _ _ _ (HP.out.s1 q h (by omega) (by omega) (by omega)) HX.out) (HP.out.s2 _ _ (by omega) (by omega) (by omega)), HU.out⟩
          case measure => simp [Proofs.intOf]; omega
      · have e0 : s = r := by omega
        subst e0
        obtain ⟨C1, C2⟩ := sym_cross HT.out HP.out hs3 hi hj hs5 hs6 hs7 HS8.out HS9.out HL.out HU.out
        have SA := Aside0.mk (SymAt.mk HP.out C1 C2 (by omega) (by omega) (by omega) (by omega) hb hmb1)
        have EE : Aside0 (((mid : Int) + m - s) = ((mid + m - s : Nat) : Int)) := ⟨by omega⟩
        clear C1 C2
        have LOW : Aside0 (∀ d1 W, IsRot d s m (mid + m - s) d1 → Sort.PermIn a b d d1 → AtRow w blk off W d1 → a < s → s < mid → Calls Try.prog 52 #[.slice (some ⟨blk, off, none⟩) d.size cap, .int .i64 a, .int .i64 s, .int .i64 mid, .func (.func 35) #[] #[.pointer (some ⟨gb, 0, none⟩)]] W (SymPost T blk off a mid d1 W)) :=
          ⟨fun d1 W r p hW c1 c2 => IH.out a s mid d1 W (by have := HN.out; omega) (hW.holds HH.out r.1) c1 c2 (by have := r.1; omega) (by have := r.1; omega) (HR.out.perm p hb) (HC.out.at hW.side) (SA.out.low r) d.size r.1.symm⟩
        have HIGH : Aside0 (∀ d1 d2 W, IsRot d s m (mid + m - s) d1 → Sort.PermIn a b d d1 → Sort.PermIn a mid d1 d2 → AtRow w blk off W d2 → mid < mid + m - s → mid + m - s < b → Calls Try.prog 52 #[.slice (some ⟨blk, off, none⟩) d.size cap, .int .i64 mid, .int .i64 ((mid : Int) + m - s), .int .i64 b, .func (.func 35) #[] #[.pointer (some ⟨gb, 0, none⟩)]] W (SymPost T blk off mid b d2 W)) :=
          ⟨fun d1 d2 W r p p1 hW c1 c2 => by
            rw [EE.out]
            exact IH.out mid (mid + m - s) b d2 W (by have := HN.out; omega) (hW.holds HH.out (p1.1.trans r.1)) c1 c2 (by have := r.1; have := p1.1; omega) (by have := r.1; have := p1.1; omega) ((HR.out.perm p hb).perm p1 (by have := r.1; omega)) (HC.out.at hW.side) ((SA.out.high r).congr ⟨by omega, by omega⟩ (fun k h1 _ => p1.2.1 k (.inr h1))) d.size (p1.1.trans r.1).symm⟩
        have ROT : Aside0 (s < m → m < mid + m - s → Calls Try.prog 56 #[.slice (some ⟨blk, off, none⟩) d.size cap, .int .i64 s, .int .i64 m, .int .i64 ((mid : Int) + m - s), .func (.func 35) #[] #[.pointer (some ⟨gb, 0, none⟩)]] wr (fun e w' => e = .returned (.tuple #[]) ∧ ∃ d', AtRow wr blk off w' d' ∧ IsRot d s m (mid + m - s) d' ∧ Sort.PermIn s (mid + m - s) d d')) :=
          ⟨fun c1 c2 => by
            rw [EE.out]
            exact rot_walk _ blk off cap s m (mid + m - s) d wr (HA.out.holds HH.out rfl) c1 c2 (by omega) (by omega)⟩
        have BB : mid + m - s ≤ b ∧ a ≤ s ∧ s ≤ m ∧ s ≤ mid := by omega
        clear HL HU
        by_cases hx : s < m ∧ m < mid + m - s
        · obtain ⟨x1, x2⟩ := hx
          by_cases hy : a < s ∧ s < mid
          · obtain ⟨y1, y2⟩ := hy
            by_cases hz : mid < mid + m - s ∧ mid + m - s < b
            · obtain ⟨z1, z2⟩ := hz
              go_wp2_with (first | (go_at_call 56; refine (ROT.out x1 x2).mono ?_; rintro e w5 ⟨rfl, d1, hA, hRt, hPp⟩; have HA1 := Aside0.mk (HA.out.trans hA hRt.1); have HR1 := Aside0.mk hRt; have HP1 := Aside0.mk (Sort.permIn_mono _ _ _ _ a b (by omega) (by omega) (by have := hRt.1; omega) hPp); clear hA hRt hPp) | (go_at_call 52; refine (HIGH.out _ _ _ HR1.out HP1.out HP2.out HA2.out z1 z2).mono ?_; rintro e w7 ⟨rfl, d3, hA, hPp, hS⟩; have HA3 := Aside0.mk (HA2.out.trans hA hPp.1); have HP3 := Aside0.mk hPp; have HS3 := Aside0.mk hS; clear hA hPp hS) | (go_at_call 52; refine (LOW.out _ _ HR1.out HP1.out HA1.out y1 y2).mono ?_; rintro e w6 ⟨rfl, d2, hA, hPp, hS⟩; have HA2 := Aside0.mk (HA1.out.trans hA hPp.1); have HP2 := Aside0.mk hPp; have HS2 := Aside0.mk hS; clear hA hPp hS))
              all_goals first | (exfalso; omega) | (go_end0; exact ⟨rfl, _, HA3.out, SA.out.fin HR1.out HP1.out HP2.out HS2.out HP3.out HS3.out⟩)
            · have HZ := Aside0.mk hz
              go_wp2_with (first | (go_at_call 56; refine (ROT.out x1 x2).mono ?_; rintro e w5 ⟨rfl, d1, hA, hRt, hPp⟩; have HA1 := Aside0.mk (HA.out.trans hA hRt.1); have HR1 := Aside0.mk hRt; have HP1 := Aside0.mk (Sort.permIn_mono _ _ _ _ a b (by omega) (by omega) (by have := hRt.1; omega) hPp); clear hA hRt hPp) | (go_at_call 52; refine (LOW.out _ _ HR1.out HP1.out HA1.out y1 y2).mono ?_; rintro e w6 ⟨rfl, d2, hA, hPp, hS⟩; have HA2 := Aside0.mk (HA1.out.trans hA hPp.1); have HP2 := Aside0.mk hPp; have HS2 := Aside0.mk hS; clear hA hPp hS))
              all_goals first | (exfalso; omega) | (go_end0; exact ⟨rfl, _, HA2.out, SA.out.fin HR1.out HP1.out HP2.out HS2.out (Sort.permIn_refl _ _ _) (SA.out.high0 HR1.out HP2.out HZ.out)⟩)
          · have HY := Aside0.mk hy
            by_cases hz : mid < mid + m - s ∧ mid + m - s < b
            · obtain ⟨z1, z2⟩ := hz
              go_wp2_with (first | (go_at_call 56; refine (ROT.out x1 x2).mono ?_; rintro e w5 ⟨rfl, d1, hA, hRt, hPp⟩; have HA1 := Aside0.mk (HA.out.trans hA hRt.1); have HR1 := Aside0.mk hRt; have HP1 := Aside0.mk (Sort.permIn_mono _ _ _ _ a b (by omega) (by omega) (by have := hRt.1; omega) hPp); clear hA hRt hPp) | (go_at_call 52; refine (HIGH.out _ _ _ HR1.out HP1.out (Sort.permIn_refl _ _ _) HA1.out z1 z2).mono ?_; rintro e w7 ⟨rfl, d3, hA, hPp, hS⟩; have HA3 := Aside0.mk (HA1.out.trans hA hPp.1); have HP3 := Aside0.mk hPp; have HS3 := Aside0.mk hS; clear hA hPp hS))
              all_goals first | (exfalso; omega) | (go_end0; exact ⟨rfl, _, HA3.out, SA.out.fin HR1.out HP1.out (Sort.permIn_refl _ _ _) (SA.out.low0 HR1.out HY.out) HP3.out HS3.out⟩)
            · have HZ := Aside0.mk hz
              go_wp2_with (first | (go_at_call 56; refine (ROT.out x1 x2).mono ?_; rintro e w5 ⟨rfl, d1, hA, hRt, hPp⟩; have HA1 := Aside0.mk (HA.out.trans hA hRt.1); have HR1 := Aside0.mk hRt; have HP1 := Aside0.mk (Sort.permIn_mono _ _ _ _ a b (by omega) (by omega) (by have := hRt.1; omega) hPp); clear hA hRt hPp))
              all_goals first | (exfalso; omega) | (go_end0; exact ⟨rfl, _, HA1.out, SA.out.fin HR1.out HP1.out (Sort.permIn_refl _ _ _) (SA.out.low0 HR1.out HY.out) (Sort.permIn_refl _ _ _) (SA.out.high0 HR1.out (Sort.permIn_refl _ _ _) HZ.out)⟩)
        · have HR1 := Aside0.mk (IsRot.none d (s := s) (m := m) (e := mid + m - s) (by omega) (by omega) (by omega))
          have HP1 := Aside0.mk (Sort.permIn_refl d a b)
          have HA1 := HA
          by_cases hy : a < s ∧ s < mid
          · obtain ⟨y1, y2⟩ := hy
            by_cases hz : mid < mid + m - s ∧ mid + m - s < b
            · obtain ⟨z1, z2⟩ := hz
              go_wp2_with (first | (go_at_call 52; refine (HIGH.out _ _ _ HR1.out HP1.out HP2.out HA2.out z1 z2).mono ?_; rintro e w7 ⟨rfl, d3, hA, hPp, hS⟩; have HA3 := Aside0.mk (HA2.out.trans hA hPp.1); have HP3 := Aside0.mk hPp; have HS3 := Aside0.mk hS; clear hA hPp hS) | (go_at_call 52; refine (LOW.out _ _ HR1.out HP1.out HA1.out y1 y2).mono ?_; rintro e w6 ⟨rfl, d2, hA, hPp, hS⟩; have HA2 := Aside0.mk (HA1.out.trans hA hPp.1); have HP2 := Aside0.mk hPp; have HS2 := Aside0.mk hS; clear hA hPp hS))
              all_goals first | (exfalso; omega) | (go_end0; exact ⟨rfl, _, HA3.out, SA.out.fin HR1.out HP1.out HP2.out HS2.out HP3.out HS3.out⟩)
            · have HZ := Aside0.mk hz
              go_wp2_with (first | (go_at_call 52; refine (LOW.out _ _ HR1.out HP1.out HA1.out y1 y2).mono ?_; rintro e w6 ⟨rfl, d2, hA, hPp, hS⟩; have HA2 := Aside0.mk (HA1.out.trans hA hPp.1); have HP2 := Aside0.mk hPp; have HS2 := Aside0.mk hS; clear hA hPp hS))
              all_goals first | (exfalso; omega) | (go_end0; exact ⟨rfl, _, HA2.out, SA.out.fin HR1.out HP1.out HP2.out HS2.out (Sort.permIn_refl _ _ _) (SA.out.high0 HR1.out HP2.out HZ.out)⟩)
          · have HY := Aside0.mk hy
            by_cases hz : mid < mid + m - s ∧ mid + m - s < b
            · obtain ⟨z1, z2⟩ := hz
              go_wp2_with (first | (go_at_call 52; refine (HIGH.out _ _ _ HR1.out HP1.out (Sort.permIn_refl _ _ _) HA1.out z1 z2).mono ?_; rintro e w7 ⟨rfl, d3, hA, hPp, hS⟩; have HA3 := Aside0.mk (HA1.out.trans hA hPp.1); have HP3 := Aside0.mk hPp; have HS3 := Aside0.mk hS; clear hA hPp hS))
              all_goals first | (exfalso; omega) | (go_end0; exact ⟨rfl, _, HA3.out, SA.out.fin HR1.out HP1.out (Sort.permIn_refl _ _ _) (SA.out.low0 HR1.out HY.out) HP3.out HS3.out⟩)
            · have HZ := Aside0.mk hz
              go_wp2
              all_goals first | (exfalso; omega) | (go_end0; exact ⟨rfl, _, HA1.out, SA.out.fin HR1.out HP1.out (Sort.permIn_refl _ _ _) (SA.out.low0 HR1.out HY.out) (Sort.permIn_refl _ _ _) (SA.out.high0 HR1.out (Sort.permIn_refl _ _ _) HZ.out)⟩)
end Go.Proofs.Ytbadelcnaeijkaa.Q
end
