import Derived.Test.YtbigcpjlahkggaaKReplicaAccepts1
import Derived.Test.YtbigcpjlahkggaaProg
import Derived.Below
import Derived.Deep.Draws
import Derived.Deep.AppendLies
import Derived.Maps.AppendAt
import Derived.OwnWalk
import Derived.Laws.BytesArg
import Derived.Laws.MakeOwn
import Derived.Laws.OwnMore
import Derived.Deep.OwnRows
import Derived.Tactics
import Derived.Lib.ConvBytes
import Derived.Laws.Slices
import Derived.WalkKit
import Derived.KernelRfl
import Derived.RowKit3
import Derived.Deep.LoopGhost
import Derived.Deep.QuietTactic
import Derived.BigQuiet
import Derived.WideLaws
import Derived.Deep.DeepCutAuto
import Derived.Deep.CutBlock
import Derived.Deep.RegionHeld3
import Derived.Laws.Rows
import Derived.Lib.AppendStr
import Derived.ArgAppend
import Derived.Laws.IdiomCopy
import Derived.OrdersHeld
import Derived.Laws.BitsLemmas
import Derived.RowKit
import Derived.Outline
import Derived.Lib.Hide
import Derived.Lib.Walk
import Derived.Lib.SliceRun
import Derived.Sort.OwnSortedInts
set_option linter.unusedVariables false
set_option linter.unusedSimpArgs false
section
namespace Go.Proofs.YtbigcpjlahkggaaW.PrintMore
open Go.RowKit Go.Proofs.YtbigcpjlahkggaaW.PrintWords Go.Proofs.YtbigcpjlahkggaaW.PrintLast
theorem pk_ {w w1 : World} {g : Nat} {o : Obj} (h : w.heap[g]? = some o) (k : w.heap[g]? = some o → w1.heap[g]? = some o := by intro h_; (with_reducible repeat (first | refine blk_drewN ?_ _ | refine blk_drew ?_ | refine blk_alloc ?_ _)); exact h_) : w1.heap[g]? = some o := k h
theorem pN_ {α : Type} {d : Kd α} {e base : Nat} {ok : Nat → Prop} {v : Value} {xs : List α} {w w1 : World} (h : Kd.N d e w base ok v xs) (k : Kd.N d e w base ok v xs → Kd.N d e w1 base ok v xs := by intro h_; (with_reducible repeat (first | apply Kd.N_alloc | apply Kd.N_drewN | apply Kd.N_drew)); exact h_) : Kd.N d e w1 base ok v xs := k h
theorem pV_ {α : Type} {d : Kd α} {e base : Nat} {ok : Nat → Prop} {v : Value} {xs : List α} {w w1 : World} (h : Kd.V d e w base ok v xs) (k : Kd.V d e w base ok v xs → Kd.V d e w1 base ok v xs := by intro h_; (with_reducible repeat (first | apply Kd.V_alloc | apply Kd.V_drewN | apply Kd.V_drew)); exact h_) : Kd.V d e w1 base ok v xs := k h
theorem pS_ {α : Type} {d : Kd α} {e base : Nat} {ok : Nat → Prop} {v : Value} {xs : List α} {w w1 : World} (h : Kd.S d e w base ok v xs) (k : Kd.S d e w base ok v xs → Kd.S d e w1 base ok v xs := by intro h_; (with_reducible repeat (first | apply Kd.S_alloc | apply Kd.S_drewN | apply Kd.S_drew)); exact h_) : Kd.S d e w1 base ok v xs := k h
theorem pR_ {α : Type} {d : Kd α} {e base : Nat} {ok : Nat → Prop} {v : Value} {xs : List α} {w w1 : World} (h : d.R e w base ok v xs) (k : d.R e w base ok v xs → d.R e w1 base ok v xs := by intro h_; (with_reducible repeat (first | apply Kd.R_alloc | apply Kd.R_drewN | apply Kd.R_drew)); exact h_) : d.R e w1 base ok v xs := k h
theorem pQ_ {α : Type} {d : Kd α} {e base : Nat} {ok : Nat → Prop} {v : Value} {xs : List α} {w w1 : World} (h : d.Q e w base ok v xs) (k : d.Q e w base ok v xs → d.Q e w1 base ok v xs := by intro h_; (with_reducible repeat (first | apply Kd.Q_alloc | apply Kd.Q_drewN | apply Kd.Q_drew)); exact h_) : d.Q e w1 base ok v xs := k h
theorem pb0_ {B : Nat} {a w w1 : World} (h : Below B a w) (k : Below B a w → Below B a w1 := by intro h_; repeat (first | (with_reducible first | exact h_ | apply below_alloc | apply pw_below_drewN | apply below_drew1) | exact h_)) : Below B a w1 := k h
theorem pb1_ {B : Nat} {a w w1 : World} {g0 : Nat} (h : Below B a w) (q0 : B ≤ g0) (k : Below B a w → B ≤ g0 → Below B a w1 := by intro h_ q0_; repeat (first | (with_reducible first | exact h_ | apply below_alloc | apply pw_below_drewN | apply below_drew1 | refine below_set ?_ q0_) | exact h_)) : Below B a w1 := k h q0
theorem pb2_ {B : Nat} {a w w1 : World} {g0 g1 : Nat} (h : Below B a w) (q0 : B ≤ g0) (q1 : B ≤ g1) (k : Below B a w → B ≤ g0 → B ≤ g1 → Below B a w1 := by intro h_ q0_ q1_; repeat (first | (with_reducible first | exact h_ | apply below_alloc | apply pw_below_drewN | apply below_drew1 | refine below_set ?_ q0_ | refine below_set ?_ q1_) | exact h_)) : Below B a w1 := k h q0 q1
theorem pb3_ {B : Nat} {a w w1 : World} {g0 g1 g2 : Nat} (h : Below B a w) (q0 : B ≤ g0) (q1 : B ≤ g1) (q2 : B ≤ g2) (k : Below B a w → B ≤ g0 → B ≤ g1 → B ≤ g2 → Below B a w1 := by intro h_ q0_ q1_ q2_; repeat (first | (with_reducible first | exact h_ | apply below_alloc | apply pw_below_drewN | apply below_drew1 | refine below_set ?_ q0_ | refine below_set ?_ q1_ | refine below_set ?_ q2_) | exact h_)) : Below B a w1 := k h q0 q1 q2
theorem pb4_ {B : Nat} {a w w1 : World} {g0 g1 g2 g3 : Nat} (h : Below B a w) (q0 : B ≤ g0) (q1 : B ≤ g1) (q2 : B ≤ g2) (q3 : B ≤ g3) (k : Below B a w → B ≤ g0 → B ≤ g1 → B ≤ g2 → B ≤ g3 → Below B a w1 := by intro h_ q0_ q1_ q2_ q3_; repeat (first | (with_reducible first | exact h_ | apply below_alloc | apply pw_below_drewN | apply below_drew1 | refine below_set ?_ q0_ | refine below_set ?_ q1_ | refine below_set ?_ q2_ | refine below_set ?_ q3_) | exact h_)) : Below B a w1 := k h q0 q1 q2 q3
theorem au_ {p : Prop} (h : p := by (try simp only [List.map_toArray, List.map_cons, List.map_nil]); first | done | rfl | (simp only [List.length_drop, List.length_take]; rfl)) : p := h
abbrev lt1_ := @List.setIfInBounds_toArray
abbrev lt2_ := @List.set_cons_zero
abbrev lt3_ := @List.set_cons_succ
abbrev bn_ := @blk_drewN
abbrev ba_ := @blk_alloc
abbrev bd_ := @blk_drew
abbrev bs_ := @below_set
abbrev bf_ := @blk_frozen
abbrev bc_ := @blk_cell
abbrev pb_ := @pw_below_drewN
abbrev b1_ := @below_drew1
abbrev bl_ := @below_alloc
abbrev vd_ := @Kd.V_drew
abbrev vn_ := @Kd.V_drewN
abbrev va_ := @Kd.V_alloc
abbrev nd_ := @Kd.N_drew
abbrev nn_ := @Kd.N_drewN
abbrev na_ := @Kd.N_alloc
abbrev fb_ := @Kd.freshB
abbrev bz_ := @below_size
abbrev am_ := @Aside0.mk
abbrev bk_ := @World.block_lt_of_cell?
abbrev ot_ := @of_decide_eq_true
abbrev bw_ := @blk_below
abbrev sp_ := @below_step
abbrev nf_ := @Kd.N_far
abbrev nm_ := @Kd.N_mono
abbrev si_ := @Option.some.inj
abbrev de_ := @decide_eq_true
abbrev df_ := @decide_eq_false
abbrev le_ := @Nat.le_of_eq
abbrev nl_ := @Kd.N_lower
abbrev vm_ := @Kd.V_mono
abbrev nb_ := @Kd.N_below
abbrev vb_ := @Kd.V_below
end Go.Proofs.YtbigcpjlahkggaaW.PrintMore
end
section
namespace Go.Proofs.Ytbigcpjlahkggaa.Q
open Go.RowKit Go.Proofs.YtbigcpjlahkggaaW.PrintWords Go.Proofs.YtbigcpjlahkggaaW.PrintLast Go.Proofs.YtbigcpjlahkggaaW.PrintMore
attribute [local go_sem] max2_int min2_int max_two min_two max_three min_three max_four min_four
attribute [local go_sem ↓] isSome_setCell
attribute [local go_sem] string_gtr
set_option linter.unusedVariables false
set_option linter.unusedSimpArgs false
def errW : Option Int → Value
 | none => .nilIface
 | some c => .iface 0 (.int .i64 c)
theorem errW_none : errW none = .nilIface := rfl
theorem errW_some (c : Int) : errW (some c) = .iface 0 (.int .i64 c) := rfl
theorem info3 : (Try.prog.info? 3).map (fun i => (i.zero, i.size, i.bytes)) = some (some (.int .i64 0), 1, 8) := by kernel_rfl
theorem info5 : (Try.prog.info? 5).map (fun i => (i.zero, i.size, i.bytes)) = some (some (.int .u8 0), 1, 1) := by kernel_rfl
theorem info35 : (Try.prog.info? 35).map (fun i => (i.zero, i.size, i.bytes)) = some (some (.agg #[(.int .i64 0), (.int .i64 0), (.slice none 0 0)]), 3, 40) := by kernel_rfl
theorem info79 : (Try.prog.info? 79).map (fun i => (i.zero, i.size, i.bytes)) = some (some (.agg #[(.int .i64 0), (.slice none 0 0)]), 2, 32) := by kernel_rfl
theorem info87 : (Try.prog.info? 87).map (fun i => (i.zero, i.size, i.bytes)) = some (some (.agg #[(.int .i64 0), (.slice none 0 0)]), 2, 32) := by kernel_rfl
structure S79 where
 f0 : Int
 f1 : (List Int)
def z79 : S79 := ⟨(0 : Int), ([] : List Int)⟩
def k79 : Kd S79 := Kd.iso (Kd.pair (Kd.int .i64) (Kd.slice 5 (Kd.int .u8))) (fun x : S79 => (x.f0, x.f1))
theorem k79_open {w : World} {x : S79} {cs : List Value} (h : k79.K w x cs) : ∃ A1 c1, cs = [.int .i64 x.f0, .slice A1 x.f1.length c1] ∧ x.f1.length ≤ c1 ∧ (Kd.int .u8).C w A1 x.f1.length x.f1 := by
 obtain ⟨_, _, rfl, rfl, ⟨A1, c1, rfl, l1, g1⟩⟩ := h; exact ⟨A1, c1, rfl, l1, g1⟩
theorem k79_mkM (w : World) (base : Nat) (ok : Nat → Prop) (x : S79) {v1 : Value} (g1 : (Kd.int .u8).R 5 w base ok v1 x.f1) : k79.M w base ok x [.int .i64 x.f0, v1] := ⟨[.int .i64 x.f0], [v1], rfl, rfl, ⟨v1, rfl, g1⟩⟩
def rd_T79 (xs : List S79) (i : Int) : S79 := xs.getD i.toNat z79
theorem at_T79 {w : World} {A : Option Addr} {n : Nat} {xs : List S79} (h : Kd.C k79 w A n xs) (i : Int) (h0 : 0 ≤ i) (h1 : i < n) : ∃ ad A1 c1, A = some ad ∧ w.cell? (ad.add (i.toNat * 2)) = some (.int .i64 (rd_T79 xs i).f0) ∧ w.cell? ⟨(ad.add (i.toNat * 2)).block, (ad.add (i.toNat * 2)).off + 1, none⟩ = some (.slice A1 (rd_T79 xs i).f1.length c1) ∧ (rd_T79 xs i).f1.length ≤ c1 ∧ (Kd.int .u8).C w A1 (rd_T79 xs i).f1.length (rd_T79 xs i).f1 := by
 obtain ⟨ad, c, e, _, hK, hc0⟩ := Kd.C_get h z79 i h0 h1; have hc : ∀ j u, c[j]? = some u → w.cell? (ad.add (i.toNat * 2 + j)) = some u := hc0; obtain ⟨A1, c1, rfl, l1, g1⟩ := k79_open hK; exact ⟨ad, A1, c1, e, hc 0 _ rfl, by rw [← add_field _ _ 1 (by omega)]; exact hc 1 _ rfl, l1, g1⟩
structure S87 where
 f0 : Int
 f1 : (List Int)
def z87 : S87 := ⟨(0 : Int), ([] : List Int)⟩
def k87 : Kd S87 := Kd.iso (Kd.pair (Kd.int .i64) (Kd.slice 5 (Kd.int .u8))) (fun x : S87 => (x.f0, x.f1))
theorem k87_open {w : World} {x : S87} {cs : List Value} (h : k87.K w x cs) : ∃ A1 c1, cs = [.int .i64 x.f0, .slice A1 x.f1.length c1] ∧ x.f1.length ≤ c1 ∧ (Kd.int .u8).C w A1 x.f1.length x.f1 := by
 obtain ⟨_, _, rfl, rfl, ⟨A1, c1, rfl, l1, g1⟩⟩ := h; exact ⟨A1, c1, rfl, l1, g1⟩
theorem k87_mk (w : World) (x : S87) {A1 : Option Addr} {c1 : Nat} (l1 : x.f1.length ≤ c1) (g1 : (Kd.int .u8).C w A1 x.f1.length x.f1) : k87.K w x [.int .i64 x.f0, .slice A1 x.f1.length c1] := ⟨[.int .i64 x.f0], [.slice A1 x.f1.length c1], rfl, rfl, ⟨A1, c1, rfl, l1, g1⟩⟩
theorem k87_mkM (w : World) (base : Nat) (ok : Nat → Prop) (x : S87) {v1 : Value} (g1 : (Kd.int .u8).R 5 w base ok v1 x.f1) : k87.M w base ok x [.int .i64 x.f0, v1] := ⟨[.int .i64 x.f0], [v1], rfl, rfl, ⟨v1, rfl, g1⟩⟩
theorem k87_openF {W : World} {ok : Nat → Prop} {x : S87} {cs : List Value} (h : Kd.FK k87 W ok x cs) : ∃ A1 c1, cs = [.int .i64 x.f0, .slice A1 x.f1.length c1] ∧ x.f1.length ≤ c1 ∧ Kd.F (Kd.int .u8) W ok A1 x.f1.length x.f1 := by
 obtain ⟨A1, c1, rfl, l1, _⟩ := k87_open (Kd.FK_now h); exact ⟨A1, c1, rfl, l1, (fun W' hW => by obtain ⟨A1_, c1_, he, l1_, g1_⟩ := k87_open (h W' hW); injection (si_ (show some (Value.slice A1 x.f1.length c1) = some (Value.slice A1_ x.f1.length c1_) from congrArg (fun l => l[1]?) he)) with ha_ _ _; rw [ha_]; exact g1_)⟩
theorem k87_mkF (W : World) (ok : Nat → Prop) (x : S87) {A1 : Option Addr} {c1 : Nat} (l1 : x.f1.length ≤ c1) (g1 : Kd.F (Kd.int .u8) W ok A1 x.f1.length x.f1) : Kd.FK k87 W ok x [.int .i64 x.f0, .slice A1 x.f1.length c1] := fun W2 hW => k87_mk W2 x l1 (g1 W2 hW)
def rd_T87 (xs : List S87) (i : Int) : S87 := xs.getD i.toNat z87
theorem at_T87 {w : World} {A : Option Addr} {n : Nat} {xs : List S87} (h : Kd.C k87 w A n xs) (i : Int) (h0 : 0 ≤ i) (h1 : i < n) : ∃ ad A1 c1, A = some ad ∧ w.cell? (ad.add (i.toNat * 2)) = some (.int .i64 (rd_T87 xs i).f0) ∧ w.cell? ⟨(ad.add (i.toNat * 2)).block, (ad.add (i.toNat * 2)).off + 1, none⟩ = some (.slice A1 (rd_T87 xs i).f1.length c1) ∧ (rd_T87 xs i).f1.length ≤ c1 ∧ (Kd.int .u8).C w A1 (rd_T87 xs i).f1.length (rd_T87 xs i).f1 := by
 obtain ⟨ad, c, e, _, hK, hc0⟩ := Kd.C_get h z87 i h0 h1; have hc : ∀ j u, c[j]? = some u → w.cell? (ad.add (i.toNat * 2 + j)) = some u := hc0; obtain ⟨A1, c1, rfl, l1, g1⟩ := k87_open hK; exact ⟨ad, A1, c1, e, hc 0 _ rfl, by rw [← add_field _ _ 1 (by omega)]; exact hc 1 _ rfl, l1, g1⟩
structure S35 where
 f0 : Int
 f1 : Int
 f2 : (List S87)
def z35 : S35 := ⟨(0 : Int), (0 : Int), ([] : List S87)⟩
def k35 : Kd S35 := Kd.iso (Kd.pair (Kd.int .i64) (Kd.pair (Kd.int .i64) (Kd.slice 87 k87))) (fun x : S35 => (x.f0, x.f1, x.f2))
theorem k35_open {w : World} {x : S35} {cs : List Value} (h : k35.K w x cs) : ∃ A2 c2, cs = [.int .i64 x.f0, .int .i64 x.f1, .slice A2 x.f2.length c2] ∧ x.f2.length ≤ c2 ∧ k87.C w A2 x.f2.length x.f2 := by
 obtain ⟨_, _, rfl, rfl, ⟨_, _, rfl, rfl, ⟨A2, c2, rfl, l2, g2⟩⟩⟩ := h; exact ⟨A2, c2, rfl, l2, g2⟩
theorem k35_mk (w : World) (x : S35) {A2 : Option Addr} {c2 : Nat} (l2 : x.f2.length ≤ c2) (g2 : k87.C w A2 x.f2.length x.f2) : k35.K w x [.int .i64 x.f0, .int .i64 x.f1, .slice A2 x.f2.length c2] := ⟨[.int .i64 x.f0], [.int .i64 x.f1, .slice A2 x.f2.length c2], rfl, rfl, ⟨[.int .i64 x.f1], [.slice A2 x.f2.length c2], rfl, rfl, ⟨A2, c2, rfl, l2, g2⟩⟩⟩
theorem k35_openF {W : World} {ok : Nat → Prop} {x : S35} {cs : List Value} (h : Kd.FK k35 W ok x cs) : ∃ A2 c2, cs = [.int .i64 x.f0, .int .i64 x.f1, .slice A2 x.f2.length c2] ∧ x.f2.length ≤ c2 ∧ Kd.F k87 W ok A2 x.f2.length x.f2 := by
 obtain ⟨A2, c2, rfl, l2, _⟩ := k35_open (Kd.FK_now h); exact ⟨A2, c2, rfl, l2, (fun W' hW => by obtain ⟨A2_, c2_, he, l2_, g2_⟩ := k35_open (h W' hW); injection (si_ (show some (Value.slice A2 x.f2.length c2) = some (Value.slice A2_ x.f2.length c2_) from congrArg (fun l => l[2]?) he)) with ha_ _ _; rw [ha_]; exact g2_)⟩
theorem k35_mkF (W : World) (ok : Nat → Prop) (x : S35) {A2 : Option Addr} {c2 : Nat} (l2 : x.f2.length ≤ c2) (g2 : Kd.F k87 W ok A2 x.f2.length x.f2) : Kd.FK k35 W ok x [.int .i64 x.f0, .int .i64 x.f1, .slice A2 x.f2.length c2] := fun W2 hW => k35_mk W2 x l2 (g2 W2 hW)
def rd_T35 (xs : List S35) (i : Int) : S35 := xs.getD i.toNat z35
theorem at_T35 {w : World} {A : Option Addr} {n : Nat} {xs : List S35} (h : Kd.C k35 w A n xs) (i : Int) (h0 : 0 ≤ i) (h1 : i < n) : ∃ ad A2 c2, A = some ad ∧ w.cell? (ad.add (i.toNat * 3)) = some (.int .i64 (rd_T35 xs i).f0) ∧ w.cell? ⟨(ad.add (i.toNat * 3)).block, (ad.add (i.toNat * 3)).off + 1, none⟩ = some (.int .i64 (rd_T35 xs i).f1) ∧ w.cell? ⟨(ad.add (i.toNat * 3)).block, (ad.add (i.toNat * 3)).off + 2, none⟩ = some (.slice A2 (rd_T35 xs i).f2.length c2) ∧ (rd_T35 xs i).f2.length ≤ c2 ∧ k87.C w A2 (rd_T35 xs i).f2.length (rd_T35 xs i).f2 := by
 obtain ⟨ad, c, e, _, hK, hc0⟩ := Kd.C_get h z35 i h0 h1; have hc : ∀ j u, c[j]? = some u → w.cell? (ad.add (i.toNat * 3 + j)) = some u := hc0; obtain ⟨A2, c2, rfl, l2, g2⟩ := k35_open hK; exact ⟨ad, A2, c2, e, hc 0 _ rfl, by rw [← add_field _ _ 1 (by omega)]; exact hc 1 _ rfl, by rw [← add_field _ _ 2 (by omega)]; exact hc 2 _ rfl, l2, g2⟩
structure S24 where
 f0 : Int
 f1 : Int
 f2 : (List S79)
def k24 : Kd S24 := Kd.iso (Kd.pair (Kd.int .i64) (Kd.pair (Kd.int .i64) (Kd.slice 79 k79))) (fun x : S24 => (x.f0, x.f1, x.f2))
theorem k24_open {w : World} {x : S24} {cs : List Value} (h : k24.K w x cs) : ∃ A2 c2, cs = [.int .i64 x.f0, .int .i64 x.f1, .slice A2 x.f2.length c2] ∧ x.f2.length ≤ c2 ∧ k79.C w A2 x.f2.length x.f2 := by
 obtain ⟨_, _, rfl, rfl, ⟨_, _, rfl, rfl, ⟨A2, c2, rfl, l2, g2⟩⟩⟩ := h; exact ⟨A2, c2, rfl, l2, g2⟩
structure S38 where
 f0 : Int
 f1 : Int
 f2 : Int
 f3 : (List S79)
 f4 : Int
def k38 : Kd S38 := Kd.iso (Kd.pair (Kd.int .i64) (Kd.pair (Kd.int .i64) (Kd.pair (Kd.int .i64) (Kd.pair (Kd.slice 79 k79) (Kd.int .i64))))) (fun x : S38 => (x.f0, x.f1, x.f2, x.f3, x.f4))
theorem k38_open {w : World} {x : S38} {cs : List Value} (h : k38.K w x cs) : ∃ A3 c3, cs = [.int .i64 x.f0, .int .i64 x.f1, .int .i64 x.f2, .slice A3 x.f3.length c3, .int .i64 x.f4] ∧ x.f3.length ≤ c3 ∧ k79.C w A3 x.f3.length x.f3 := by
 obtain ⟨_, _, rfl, rfl, ⟨_, _, rfl, rfl, ⟨_, _, rfl, rfl, ⟨_, _, rfl, ⟨A3, c3, rfl, l3, g3⟩, rfl⟩⟩⟩⟩ := h; exact ⟨A3, c3, rfl, l3, g3⟩
end Go.Proofs.Ytbigcpjlahkggaa.Q
end
section
namespace Go.Proofs.Ytbigcpjlahkggaa.Q
open Go.RowKit Go.Proofs.YtbigcpjlahkggaaW.PrintWords Go.Proofs.YtbigcpjlahkggaaW.PrintLast Go.Proofs.YtbigcpjlahkggaaW.PrintMore
attribute [local go_sem] max2_int min2_int max_two min_two max_three min_three max_four min_four
attribute [local go_sem ↓] isSome_setCell
attribute [local go_sem] string_gtr
set_option linter.unusedVariables false
set_option linter.unusedSimpArgs false
def tapearchivelaw26_few.l0 : Nat → List (S79) → Int → Option (Bool)
 | 0, _, _ => none
 | k + 1, x0, x3 => if x3 < (x0.length : Int) then (if 0 ≤ x3 then (if (((rd_T79 x0 x3).f1).length : Int) > 200 then (some false) else (tapearchivelaw26_few.l0 k x0 (wrap64 (x3 + 1)))) else (none)) else (some true)
def tapearchivelaw26_few.f (k : Nat) (l0 : List (S79)) : Option (Bool) := if (l0.length : Int) > 100 then (some false) else (tapearchivelaw26_few.l0 k l0 0)
set_option maxHeartbeats 8000000 in
set_option maxRecDepth 100000 in
theorem tapearchivelaw26_few.calls (k : Nat) (A0 : Option Addr) (c0 : Nat) (l0 : List (S79)) (r : Bool) (w : World) (hr0 : Kd.C k79 w A0 l0.length l0) (hc0 : l0.length ≤ c0) (h : tapearchivelaw26_few.f k l0 = some r) :
  Calls Try.prog 8 #[.slice A0 l0.length c0] w fun e w' => e = .returned (.bool r) ∧ Drawn0 w w' := by
 have HR0 := am_ hr0; have HC0 := am_ hc0; clear hr0 hc0; have H : (if (l0.length : Int) > 100 then (some false) else (tapearchivelaw26_few.l0 k l0 0)) = some r := h; clear h
 by_cases c2 : (l0.length : Int) > 100
 ·
  rw [if_pos c2] at H; have c2b0 : decide (100 < (l0.length : Int)) = true := de_ c2; have c2b1 : decide (100 < l0.length) = true := de_ (by omega); clear c2; obtain rfl := si_ H; go_enter Try.func8, Try.ntmps8; go_wp2; go_ret; exact ⟨by first | rfl | (simp; done) | (simp [*]; done), by repeat (first | exact Drawn0.refl _ | apply Drawn0.step)⟩
 ·
  rw [if_neg c2] at H; have c2b0 : decide (100 < (l0.length : Int)) = false := df_ c2; have c2b1 : decide (100 < l0.length) = false := df_ (by omega); clear c2; have H' := am_ H; clear H; go_enter Try.func8, Try.ntmps8; go_wp2
  go_loopg [3] k (fun kq v3 w' => ∃ (x3_1 : Int), v3 = .int .i64 x3_1 ∧ Aside0 (tapearchivelaw26_few.l0 kq l0 x3_1 = some r) ∧ Aside0 (kq ≤ k) ∧ Drawn0 w w')
  case atStart => exact ⟨(0), (by first | rfl | (simp; done) | (simp [*]; done)), H', ⟨Nat.le_refl _⟩, by repeat (first | exact Drawn0.refl _ | apply Drawn0.step)⟩
  case round =>
   clear H'
   try clear c2
   try clear c2b0
   try clear c2b1
   try clear p2
   obtain ⟨x3_1, rfl, HA, HK1, ⟨m1, rfl⟩⟩ := hrel; cases gk with
   | zero => exact absurd HA.out (by simp [tapearchivelaw26_few.l0])
   | succ k1 =>
    have H := HA.out; clear HA; simp only [tapearchivelaw26_few.l0] at H
    by_cases c3 : x3_1 < (l0.length : Int)
    ·
     rw [if_pos c3] at H; have c3b0 : decide (x3_1 < (l0.length : Int)) = true := de_ c3; clear c3
     by_cases c4 : 0 ≤ x3_1
     ·
      rw [if_pos c4] at H; have c4b0 : decide (0 ≤ x3_1) = true := de_ c4; clear c4
      by_cases c5 : (((rd_T79 l0 x3_1).f1).length : Int) > 200
      ·
       rw [if_pos c5] at H; have c5b0 : decide (200 < (((rd_T79 l0 x3_1).f1).length : Int)) = true := de_ c5; have c5b1 : decide (200 < ((rd_T79 l0 x3_1).f1).length) = true := de_ (by omega); clear c5; obtain rfl := si_ H; have p101 : 0 ≤ (x3_1 : Int) := ot_ (by first | (with_reducible assumption) | assumption); have q101 : x3_1 < (l0.length : Int) := ot_ (by first | (with_reducible assumption) | assumption); obtain ⟨ad101, A101_1, c101_1, e101, hx101_0, hx101_1, hl101_1, hi101_1⟩ := at_T79 HR0.out x3_1 p101 q101; cases e101; have HR101_1 := am_ hi101_1; have HC101_1 := am_ hl101_1; clear hi101_1 hl101_1; replace p101 := eq_true p101; replace q101 := eq_true q101; go_wp2; go_ret; exact ⟨by first | rfl | (simp; done) | (simp [*]; done), by repeat (first | exact Drawn0.refl _ | apply Drawn0.step)⟩
      ·
       rw [if_neg c5] at H; have c5b0 : decide (200 < (((rd_T79 l0 x3_1).f1).length : Int)) = false := df_ c5; have c5b1 : decide (200 < ((rd_T79 l0 x3_1).f1).length) = false := df_ (by omega); clear c5; have H' := am_ H; clear H; have p101 : 0 ≤ (x3_1 : Int) := ot_ (by first | (with_reducible assumption) | assumption); have q101 : x3_1 < (l0.length : Int) := ot_ (by first | (with_reducible assumption) | assumption); obtain ⟨ad101, A101_1, c101_1, e101, hx101_0, hx101_1, hl101_1, hi101_1⟩ := at_T79 HR0.out x3_1 p101 q101; cases e101; have HR101_1 := am_ hi101_1; have HC101_1 := am_ hl101_1; clear hi101_1 hl101_1; replace p101 := eq_true p101; replace q101 := eq_true q101; go_wp2
       go_roundg k1
       case measure => have := HK1.out; omega
       case rel => exact ⟨(wrap64 (x3_1 + 1)), (by first | rfl | (simp; done) | (simp [*]; done)), H', ⟨by have := HK1.out; omega⟩, by repeat (first | exact Drawn0.refl _ | apply Drawn0.step)⟩
     ·
      rw [if_neg c4] at H; exact absurd H (by simp)
    ·
     rw [if_neg c3] at H; have c3b0 : decide (x3_1 < (l0.length : Int)) = false := df_ c3; clear c3; obtain rfl := si_ H; go_wp2; go_ret; exact ⟨by first | rfl | (simp; done) | (simp [*]; done), by repeat (first | exact Drawn0.refl _ | apply Drawn0.step)⟩
def replica_number.f (a0 : Int) : Option (Bool) := if a0 ≥ 0 then (some (decide (a0 ≤ 1125899906842624))) else (some false)
set_option maxHeartbeats 8000000 in
set_option maxRecDepth 100000 in
theorem replica_number.calls (a0 : Int) (r : Bool) (w : World) (h : replica_number.f a0 = some r) :
  Calls Try.prog 48 #[.int .i64 a0] w fun e w' => e = .returned (.bool r) ∧ Drawn0 w w' := by
 have H : (if a0 ≥ 0 then (some (decide (a0 ≤ 1125899906842624))) else (some false)) = some r := h; clear h
 by_cases c2 : a0 ≥ 0
 ·
  rw [if_pos c2] at H; have c2b0 : decide (0 ≤ a0) = true := de_ c2; clear c2; obtain rfl := si_ H; go_enter Try.func48, Try.ntmps48; go_wp2; go_ret; exact ⟨by first | rfl | (simp; done) | (simp [*]; done), by repeat (first | exact Drawn0.refl _ | apply Drawn0.step)⟩
 ·
  rw [if_neg c2] at H; have c2b0 : decide (0 ≤ a0) = false := df_ c2; clear c2; obtain rfl := si_ H; go_enter Try.func48, Try.ntmps48; go_wp2; go_ret; exact ⟨by first | rfl | (simp; done) | (simp [*]; done), by repeat (first | exact Drawn0.refl _ | apply Drawn0.step)⟩
def replica_ascending.l0 : Nat → Int → Int → List (S87) → Int → Int → Option (Bool)
 | 0, _, _, _, _, _ => none
 | k + 1, x1, x2, x9, x10, x11 => if x11 < x10 then (if 0 ≤ x11 then (if x11 < (x9.length : Int) then (if ((rd_T87 x9 x11).f0) < x1 then (some false) else (if ((rd_T87 x9 x11).f0) > x2 then (some false) else (if (((rd_T87 x9 x11).f1).length : Int) > 65536 then (some false) else (replica_ascending.l0 k ((rd_T87 x9 x11).f0) x2 x9 x10 (wrap64 (x11 + 1)))))) else (none)) else (none)) else (some true)
def replica_ascending.f (k : Nat) (l0 : List (S87)) (a1 : Int) (a2 : Int) : Option (Bool) := replica_ascending.l0 k a1 a2 l0 (l0.length : Int) 0
set_option maxHeartbeats 8000000 in
set_option maxRecDepth 100000 in
theorem replica_ascending.calls (k : Nat) (A0 : Option Addr) (c0 : Nat) (l0 : List (S87)) (a1 : Int) (a2 : Int) (r : Bool) (w : World) (hr0 : Kd.C k87 w A0 l0.length l0) (hc0 : l0.length ≤ c0) (h : replica_ascending.f k l0 a1 a2 = some r) :
  Calls Try.prog 49 #[.slice A0 l0.length c0, .int .i64 a1, .int .i64 a2] w fun e w' => e = .returned (.bool r) ∧ Below w.heap.size w w' := by
 have hu87 := Try.underlying87; have HR0 := am_ hr0; have HC0 := am_ hc0; clear hr0 hc0; have HB := am_ (Below.refl w.heap.size w); have H : (replica_ascending.l0 k a1 a2 l0 (l0.length : Int) 0) = some r := h; clear h; have H' := am_ H; clear H; go_enter Try.func49, Try.ntmps49; go_wp2
 go_loopg [1, 11] k (fun kq v1 v11 w' => ∃ (x1_1 : Int) (x11_1 : Int), v1 = .int .i64 x1_1 ∧ v11 = .int .i64 x11_1 ∧ Aside0 (replica_ascending.l0 kq x1_1 a2 l0 (l0.length : Int) x11_1 = some r) ∧ Aside0 (kq ≤ k) ∧ Aside0 (Below w.heap.size w w'))
 case atStart => exact ⟨(a1), (0), (by first | rfl | (simp; done) | (simp [*]; done)), (by first | rfl | (simp; done) | (simp [*]; done)), H', ⟨Nat.le_refl _⟩, ⟨pb0_ HB.out⟩⟩
 case round =>
  clear H'
  try clear p2
  obtain ⟨x1_1, x11_1, rfl, rfl, HA, HK1, HB⟩ := hrel; cases gk with
  | zero => exact absurd HA.out (by simp [replica_ascending.l0])
  | succ k1 =>
   have H := HA.out; clear HA; simp only [replica_ascending.l0] at H
   by_cases c4 : x11_1 < (l0.length : Int)
   ·
    rw [if_pos c4] at H; have c4b0 : decide (x11_1 < (l0.length : Int)) = true := de_ c4; clear c4
    by_cases c5 : 0 ≤ x11_1
    ·
     rw [if_pos c5] at H; have c5b0 : decide (0 ≤ x11_1) = true := de_ c5; clear c5
     by_cases c6 : x11_1 < (l0.length : Int)
     ·
      rw [if_pos c6] at H; have c6b0 : decide (x11_1 < (l0.length : Int)) = true := de_ c6; clear c6
      by_cases c7 : ((rd_T87 l0 x11_1).f0) < x1_1
      ·
       rw [if_pos c7] at H; have c7b0 : decide (((rd_T87 l0 x11_1).f0) < x1_1) = true := de_ c7; clear c7; obtain rfl := si_ H; have p102 : 0 ≤ (x11_1 : Int) := ot_ (by first | (with_reducible assumption) | assumption); have q102 : x11_1 < (l0.length : Int) := ot_ (by first | (with_reducible assumption) | assumption); obtain ⟨ad102, A102_1, c102_1, e102, hx102_0, hx102_1, hl102_1, hi102_1⟩ := at_T87 HR0.out x11_1 p102 q102; cases e102; replace hx102_0 := (HB.out.cell (bk_ w _ hx102_0)).trans hx102_0; replace hx102_1 := (HB.out.cell (bk_ w _ hx102_1)).trans hx102_1; have HR102_1 := am_ hi102_1; have HC102_1 := am_ hl102_1; clear hi102_1 hl102_1; replace p102 := eq_true p102; replace q102 := eq_true q102
       go_wp2_with (first | ((with_reducible refine gate_dst (N := 8) rfl ?_); (try (refine gate_guard (by rfl) ?_; dsimp only)); refine box_event ?hg (N := 8) ?hd (cs := #[.int .i64 0, .slice none 0 0]) (t := 87) ?hr ?_; (case hd => rfl); (case hg => rfl); (case hr => first | (go_simp; done) | (go_simp; rfl)); intro gb103 hg w8 hbox hb; have n0_ := am_ (sp_ (pb0_ HB.out) hb); have n1_ := am_ (hbox); have n2_ := am_ ((by rw [hg]; exact (bz_ (pb0_ HB.out)) : w.heap.size ≤ gb103)); have n3_ := am_ ((by rw [hg]; exact (bz_ (pb0_ HB.out)) : w.heap.size ≤ gb103)); clear HB; have HB := n0_; have BK103 := n1_; have GW103 := n2_; have GE103 := n3_; clear n0_ n1_ n2_ n3_; clear hb hbox hg; have hcz9_0 : w8.cell? ⟨gb103, 0, none⟩ = some (.int .i64 0) := (bc_ BK103.out 0).trans rfl; have hcz9_1 : w8.cell? ⟨gb103, 1, none⟩ = some (.slice none 0 0) := (bc_ BK103.out 1).trans rfl; have hfz9_0 := bf_ BK103.out 0; have hfz9_1 := bf_ BK103.out 1))
       go_ret; exact ⟨by first | rfl | (simp [errW_none, errW_some] <;> rfl) | (simp [*, errW_none, errW_some] <;> rfl), pb1_ HB.out GE103.out⟩
      ·
       rw [if_neg c7] at H; have c7b0 : decide (((rd_T87 l0 x11_1).f0) < x1_1) = false := df_ c7; clear c7
       by_cases c10 : ((rd_T87 l0 x11_1).f0) > a2
       ·
        rw [if_pos c10] at H; have c10b0 : decide (a2 < ((rd_T87 l0 x11_1).f0)) = true := de_ c10; clear c10; obtain rfl := si_ H; have p102 : 0 ≤ (x11_1 : Int) := ot_ (by first | (with_reducible assumption) | assumption); have q102 : x11_1 < (l0.length : Int) := ot_ (by first | (with_reducible assumption) | assumption); obtain ⟨ad102, A102_1, c102_1, e102, hx102_0, hx102_1, hl102_1, hi102_1⟩ := at_T87 HR0.out x11_1 p102 q102; cases e102; replace hx102_0 := (HB.out.cell (bk_ w _ hx102_0)).trans hx102_0; replace hx102_1 := (HB.out.cell (bk_ w _ hx102_1)).trans hx102_1; have HR102_1 := am_ hi102_1; have HC102_1 := am_ hl102_1; clear hi102_1 hl102_1; replace p102 := eq_true p102; replace q102 := eq_true q102
        go_wp2_with (first | ((with_reducible refine gate_dst (N := 8) rfl ?_); (try (refine gate_guard (by rfl) ?_; dsimp only)); refine box_event ?hg (N := 8) ?hd (cs := #[.int .i64 0, .slice none 0 0]) (t := 87) ?hr ?_; (case hd => rfl); (case hg => rfl); (case hr => first | (go_simp; done) | (go_simp; rfl)); intro gb103 hg w11 hbox hb; have n0_ := am_ (sp_ (pb0_ HB.out) hb); have n1_ := am_ (hbox); have n2_ := am_ ((by rw [hg]; exact (bz_ (pb0_ HB.out)) : w.heap.size ≤ gb103)); have n3_ := am_ ((by rw [hg]; exact (bz_ (pb0_ HB.out)) : w.heap.size ≤ gb103)); clear HB; have HB := n0_; have BK103 := n1_; have GW103 := n2_; have GE103 := n3_; clear n0_ n1_ n2_ n3_; clear hb hbox hg; have hcz12_0 : w11.cell? ⟨gb103, 0, none⟩ = some (.int .i64 0) := (bc_ BK103.out 0).trans rfl; have hcz12_1 : w11.cell? ⟨gb103, 1, none⟩ = some (.slice none 0 0) := (bc_ BK103.out 1).trans rfl; have hfz12_0 := bf_ BK103.out 0; have hfz12_1 := bf_ BK103.out 1))
        go_ret; exact ⟨by first | rfl | (simp [errW_none, errW_some] <;> rfl) | (simp [*, errW_none, errW_some] <;> rfl), pb1_ HB.out GE103.out⟩
       ·
        rw [if_neg c10] at H; have c10b0 : decide (a2 < ((rd_T87 l0 x11_1).f0)) = false := df_ c10; clear c10
        by_cases c13 : (((rd_T87 l0 x11_1).f1).length : Int) > 65536
        ·
         rw [if_pos c13] at H; have c13b0 : decide (65536 < (((rd_T87 l0 x11_1).f1).length : Int)) = true := de_ c13; have c13b1 : decide (65536 < ((rd_T87 l0 x11_1).f1).length) = true := de_ (by omega); clear c13; obtain rfl := si_ H; have p102 : 0 ≤ (x11_1 : Int) := ot_ (by first | (with_reducible assumption) | assumption); have q102 : x11_1 < (l0.length : Int) := ot_ (by first | (with_reducible assumption) | assumption); obtain ⟨ad102, A102_1, c102_1, e102, hx102_0, hx102_1, hl102_1, hi102_1⟩ := at_T87 HR0.out x11_1 p102 q102; cases e102; replace hx102_0 := (HB.out.cell (bk_ w _ hx102_0)).trans hx102_0; replace hx102_1 := (HB.out.cell (bk_ w _ hx102_1)).trans hx102_1; have HR102_1 := am_ hi102_1; have HC102_1 := am_ hl102_1; clear hi102_1 hl102_1; replace p102 := eq_true p102; replace q102 := eq_true q102
         go_wp2_with (first | ((with_reducible refine gate_dst (N := 8) rfl ?_); (try (refine gate_guard (by rfl) ?_; dsimp only)); refine box_event ?hg (N := 8) ?hd (cs := #[.int .i64 0, .slice none 0 0]) (t := 87) ?hr ?_; (case hd => rfl); (case hg => rfl); (case hr => first | (go_simp; done) | (go_simp; rfl)); intro gb103 hg w14 hbox hb; have n0_ := am_ (sp_ (pb0_ HB.out) hb); have n1_ := am_ (hbox); have n2_ := am_ ((by rw [hg]; exact (bz_ (pb0_ HB.out)) : w.heap.size ≤ gb103)); have n3_ := am_ ((by rw [hg]; exact (bz_ (pb0_ HB.out)) : w.heap.size ≤ gb103)); clear HB; have HB := n0_; have BK103 := n1_; have GW103 := n2_; have GE103 := n3_; clear n0_ n1_ n2_ n3_; clear hb hbox hg; have hcz15_0 : w14.cell? ⟨gb103, 0, none⟩ = some (.int .i64 0) := (bc_ BK103.out 0).trans rfl; have hcz15_1 : w14.cell? ⟨gb103, 1, none⟩ = some (.slice none 0 0) := (bc_ BK103.out 1).trans rfl; have hfz15_0 := bf_ BK103.out 0; have hfz15_1 := bf_ BK103.out 1))
         go_ret; exact ⟨by first | rfl | (simp [errW_none, errW_some] <;> rfl) | (simp [*, errW_none, errW_some] <;> rfl), pb1_ HB.out GE103.out⟩
        ·
         rw [if_neg c13] at H; have c13b0 : decide (65536 < (((rd_T87 l0 x11_1).f1).length : Int)) = false := df_ c13; have c13b1 : decide (65536 < ((rd_T87 l0 x11_1).f1).length) = false := df_ (by omega); clear c13; have H' := am_ H; clear H; have p102 : 0 ≤ (x11_1 : Int) := ot_ (by first | (with_reducible assumption) | assumption); have q102 : x11_1 < (l0.length : Int) := ot_ (by first | (with_reducible assumption) | assumption); obtain ⟨ad102, A102_1, c102_1, e102, hx102_0, hx102_1, hl102_1, hi102_1⟩ := at_T87 HR0.out x11_1 p102 q102; cases e102; replace hx102_0 := (HB.out.cell (bk_ w _ hx102_0)).trans hx102_0; replace hx102_1 := (HB.out.cell (bk_ w _ hx102_1)).trans hx102_1; have HR102_1 := am_ hi102_1; have HC102_1 := am_ hl102_1; clear hi102_1 hl102_1; replace p102 := eq_true p102; replace q102 := eq_true q102
         go_wp2_with (first | ((with_reducible refine gate_dst (N := 8) rfl ?_); (try (refine gate_guard (by rfl) ?_; dsimp only)); refine box_event ?hg (N := 8) ?hd (cs := #[.int .i64 0, .slice none 0 0]) (t := 87) ?hr ?_; (case hd => rfl); (case hg => rfl); (case hr => first | (go_simp; done) | (go_simp; rfl)); intro gb103 hg w16 hbox hb; have n0_ := am_ (sp_ (pb0_ HB.out) hb); have n1_ := am_ (hbox); have n2_ := am_ ((by rw [hg]; exact (bz_ (pb0_ HB.out)) : w.heap.size ≤ gb103)); have n3_ := am_ ((by rw [hg]; exact (bz_ (pb0_ HB.out)) : w.heap.size ≤ gb103)); clear HB; have HB := n0_; have BK103 := n1_; have GW103 := n2_; have GE103 := n3_; clear n0_ n1_ n2_ n3_; clear hb hbox hg; have hcz17_0 : w16.cell? ⟨gb103, 0, none⟩ = some (.int .i64 0) := (bc_ BK103.out 0).trans rfl; have hcz17_1 : w16.cell? ⟨gb103, 1, none⟩ = some (.slice none 0 0) := (bc_ BK103.out 1).trans rfl; have hfz17_0 := bf_ BK103.out 0; have hfz17_1 := bf_ BK103.out 1))
         go_roundg k1
         case measure => have := HK1.out; omega
         case rel => exact ⟨((rd_T87 l0 x11_1).f0), (wrap64 (x11_1 + 1)), (by first | rfl | (simp; done) | (simp [*]; done)), (by first | rfl | (simp; done) | (simp [*]; done)), H', ⟨by have := HK1.out; omega⟩, ⟨pb1_ HB.out GE103.out⟩⟩
     ·
      rw [if_neg c6] at H; exact absurd H (by simp)
    ·
     rw [if_neg c5] at H; exact absurd H (by simp)
   ·
    rw [if_neg c4] at H; have c4b0 : decide (x11_1 < (l0.length : Int)) = false := df_ c4; clear c4; obtain rfl := si_ H; go_wp2; go_ret; exact ⟨by first | rfl | (simp [errW_none, errW_some] <;> rfl) | (simp [*, errW_none, errW_some] <;> rfl), pb0_ HB.out⟩
def replica_Node_valid.f (k : Nat) (a0_0 : Int) (a0_1 : Int) (l0_2 : List (S87)) : Option (Bool) := (replica_number.f a0_0).bind fun t105 => (if t105 = true then ((replica_ascending.f k l0_2 1 a0_0).bind fun t106 => (if t106 = true then (if a0_1 ≥ 0 then (some (decide (a0_1 ≤ (l0_2.length : Int)))) else (some false)) else (some false))) else (some false))
set_option maxHeartbeats 8000000 in
set_option maxRecDepth 100000 in
theorem replica_Node_valid.calls (k : Nat) (a0_0 : Int) (a0_1 : Int) (A0_2 : Option Addr) (c0_2 : Nat) (l0_2 : List (S87)) (r : Bool) (w : World) (hr0_2 : Kd.C k87 w A0_2 l0_2.length l0_2) (hc0_2 : l0_2.length ≤ c0_2) (h : replica_Node_valid.f k a0_0 a0_1 l0_2 = some r) :
  Calls Try.prog 27 #[.agg #[.int .i64 a0_0, .int .i64 a0_1, .slice A0_2 l0_2.length c0_2]] w fun e w' => e = .returned (.bool r) ∧ Below w.heap.size w w' := by
 have hu35 := Try.underlying35; have HR0_2 := am_ hr0_2; have HC0_2 := am_ hc0_2; clear hr0_2 hc0_2; have HB := am_ (Below.refl w.heap.size w); have H : ((replica_number.f a0_0).bind fun t105 => (if t105 = true then ((replica_ascending.f k l0_2 1 a0_0).bind fun t106 => (if t106 = true then (if a0_1 ≥ 0 then (some (decide (a0_1 ≤ (l0_2.length : Int)))) else (some false)) else (some false))) else (some false))) = some r := h; clear h; replace H := Option.bind_eq_some_iff.mp H; obtain ⟨t105, A20, H⟩ := H; replace H : (if t105 = true then ((replica_ascending.f k l0_2 1 a0_0).bind fun t106 => (if t106 = true then (if a0_1 ≥ 0 then (some (decide (a0_1 ≤ (l0_2.length : Int)))) else (some false)) else (some false))) else (some false)) = some r := H; have A2 := am_ A20; clear A20
 by_cases c3 : t105 = true
 ·
  subst c3; have H1 : ((replica_ascending.f k l0_2 1 a0_0).bind fun t106 => (if t106 = true then (if a0_1 ≥ 0 then (some (decide (a0_1 ≤ (l0_2.length : Int)))) else (some false)) else (some false))) = some r := by rw [if_pos rfl] at H; exact H
  clear H; have H := H1; clear H1; replace H := Option.bind_eq_some_iff.mp H; obtain ⟨t106, A40, H⟩ := H; replace H : (if t106 = true then (if a0_1 ≥ 0 then (some (decide (a0_1 ≤ (l0_2.length : Int)))) else (some false)) else (some false)) = some r := H; have A4 := am_ A40; clear A40
  by_cases c5 : t106 = true
  ·
   subst c5; have H1 : (if a0_1 ≥ 0 then (some (decide (a0_1 ≤ (l0_2.length : Int)))) else (some false)) = some r := by rw [if_pos rfl] at H; exact H
   clear H; have H := H1; clear H1
   by_cases c6 : a0_1 ≥ 0
   ·
    rw [if_pos c6] at H; have c6b0 : decide (0 ≤ a0_1) = true := de_ c6; clear c6; obtain rfl := si_ H; go_enter Try.func27, Try.ntmps27
    go_wp2_with (first | ((with_reducible refine gate_dst (N := 1) rfl ?_); (try (refine gate_guard (by rfl) ?_; dsimp only)); refine box_event ?hg (N := 1) ?hd (cs := #[.int .i64 a0_0, .int .i64 a0_1, .slice A0_2 l0_2.length c0_2]) (t := 35) ?hr ?_; (case hd => rfl); (case hg => rfl); (case hr => first | (go_simp; done) | (go_simp; rfl)); intro gb104 hg w7 hbox hb; have n0_ := am_ (sp_ (pb0_ HB.out) hb); have n1_ := am_ (hbox); have n2_ := am_ ((by rw [hg]; exact (bz_ (pb0_ HB.out)) : w.heap.size ≤ gb104)); have n3_ := am_ ((by rw [hg]; exact (bz_ (pb0_ HB.out)) : w.heap.size ≤ gb104)); clear HB; have HB := n0_; have BK104 := n1_; have GW104 := n2_; have GE104 := n3_; clear n0_ n1_ n2_ n3_; clear hb hbox hg; have hcz8_0 : w7.cell? ⟨gb104, 0, none⟩ = some (.int .i64 a0_0) := (bc_ BK104.out 0).trans rfl; have hcz8_1 : w7.cell? ⟨gb104, 1, none⟩ = some (.int .i64 a0_1) := (bc_ BK104.out 1).trans rfl; have hcz8_2 : w7.cell? ⟨gb104, 2, none⟩ = some (.slice A0_2 l0_2.length c0_2) := (bc_ BK104.out 2).trans rfl; have hfz8_0 := bf_ BK104.out 0; have hfz8_1 := bf_ BK104.out 1; have hfz8_2 := bf_ BK104.out 2) | ((with_reducible refine gate_callee (f := 48) rfl ?_); refine goesL_ (some 5) rfl rfl Try.func48 (by kernel_rfl) rfl #[.int .i64 a0_0] rfl au_ ?_; (with_reducible refine (replica_number.calls a0_0 true _ A2.out).mono ?_); rintro e w' ⟨rfl, ⟨nd, rfl⟩⟩; refine ⟨_, rfl, ?_⟩) | (go_at_call 49; (with_reducible refine (replica_ascending.calls k _ _ l0_2 1 a0_0 true _ ?side1 ?side2 A4.out).mono ?_); (case side1 => repeat (first | exact (Kd.C_below HR0_2.out (pb1_ HB.out GE104.out)) | (with_reducible refine Kd.C_alloc ?_ _) | (with_reducible refine Kd.C_drewN ?_ _) | (with_reducible refine Kd.C_drew ?_))); (case side2 => exact HC0_2.out); rintro e w9 ⟨rfl, hb⟩; have n0_ := am_ (bw_ (g := gb104) (o := .cells #[.int .i64 a0_0, .int .i64 a0_1, .slice A0_2 l0_2.length c0_2] 35 (0, 0)) (pk_ BK104.out) hb); have n1_ := am_ (sp_ (pb1_ HB.out GE104.out) hb); clear BK104; clear HB; have BK104 := n0_; have HB := n1_; clear n0_ n1_; (try clear hb); (try clear hb2); (try clear hk); (try clear hi); have hcz10_0 : w9.cell? ⟨gb104, 0, none⟩ = some (.int .i64 a0_0) := (bc_ BK104.out 0).trans rfl; have hcz10_1 : w9.cell? ⟨gb104, 1, none⟩ = some (.int .i64 a0_1) := (bc_ BK104.out 1).trans rfl; have hcz10_2 : w9.cell? ⟨gb104, 2, none⟩ = some (.slice A0_2 l0_2.length c0_2) := (bc_ BK104.out 2).trans rfl; have hfz10_0 := bf_ BK104.out 0; have hfz10_1 := bf_ BK104.out 1; have hfz10_2 := bf_ BK104.out 2))
    go_ret; exact ⟨by first | rfl | (simp [errW_none, errW_some] <;> rfl) | (simp [*, errW_none, errW_some] <;> rfl), pb1_ HB.out GE104.out⟩
   ·
    rw [if_neg c6] at H; have c6b0 : decide (0 ≤ a0_1) = false := df_ c6; clear c6; obtain rfl := si_ H; go_enter Try.func27, Try.ntmps27
    go_wp2_with (first | ((with_reducible refine gate_dst (N := 1) rfl ?_); (try (refine gate_guard (by rfl) ?_; dsimp only)); refine box_event ?hg (N := 1) ?hd (cs := #[.int .i64 a0_0, .int .i64 a0_1, .slice A0_2 l0_2.length c0_2]) (t := 35) ?hr ?_; (case hd => rfl); (case hg => rfl); (case hr => first | (go_simp; done) | (go_simp; rfl)); intro gb104 hg w11 hbox hb; have n0_ := am_ (sp_ (pb0_ HB.out) hb); have n1_ := am_ (hbox); have n2_ := am_ ((by rw [hg]; exact (bz_ (pb0_ HB.out)) : w.heap.size ≤ gb104)); have n3_ := am_ ((by rw [hg]; exact (bz_ (pb0_ HB.out)) : w.heap.size ≤ gb104)); clear HB; have HB := n0_; have BK104 := n1_; have GW104 := n2_; have GE104 := n3_; clear n0_ n1_ n2_ n3_; clear hb hbox hg; have hcz12_0 : w11.cell? ⟨gb104, 0, none⟩ = some (.int .i64 a0_0) := (bc_ BK104.out 0).trans rfl; have hcz12_1 : w11.cell? ⟨gb104, 1, none⟩ = some (.int .i64 a0_1) := (bc_ BK104.out 1).trans rfl; have hcz12_2 : w11.cell? ⟨gb104, 2, none⟩ = some (.slice A0_2 l0_2.length c0_2) := (bc_ BK104.out 2).trans rfl; have hfz12_0 := bf_ BK104.out 0; have hfz12_1 := bf_ BK104.out 1; have hfz12_2 := bf_ BK104.out 2) | ((with_reducible refine gate_callee (f := 48) rfl ?_); refine goesL_ (some 5) rfl rfl Try.func48 (by kernel_rfl) rfl #[.int .i64 a0_0] rfl au_ ?_; (with_reducible refine (replica_number.calls a0_0 true _ A2.out).mono ?_); rintro e w' ⟨rfl, ⟨nd, rfl⟩⟩; refine ⟨_, rfl, ?_⟩) | (go_at_call 49; (with_reducible refine (replica_ascending.calls k _ _ l0_2 1 a0_0 true _ ?side1 ?side2 A4.out).mono ?_); (case side1 => repeat (first | exact (Kd.C_below HR0_2.out (pb1_ HB.out GE104.out)) | (with_reducible refine Kd.C_alloc ?_ _) | (with_reducible refine Kd.C_drewN ?_ _) | (with_reducible refine Kd.C_drew ?_))); (case side2 => exact HC0_2.out); rintro e w13 ⟨rfl, hb⟩; have n0_ := am_ (bw_ (g := gb104) (o := .cells #[.int .i64 a0_0, .int .i64 a0_1, .slice A0_2 l0_2.length c0_2] 35 (0, 0)) (pk_ BK104.out) hb); have n1_ := am_ (sp_ (pb1_ HB.out GE104.out) hb); clear BK104; clear HB; have BK104 := n0_; have HB := n1_; clear n0_ n1_; (try clear hb); (try clear hb2); (try clear hk); (try clear hi); have hcz14_0 : w13.cell? ⟨gb104, 0, none⟩ = some (.int .i64 a0_0) := (bc_ BK104.out 0).trans rfl; have hcz14_1 : w13.cell? ⟨gb104, 1, none⟩ = some (.int .i64 a0_1) := (bc_ BK104.out 1).trans rfl; have hcz14_2 : w13.cell? ⟨gb104, 2, none⟩ = some (.slice A0_2 l0_2.length c0_2) := (bc_ BK104.out 2).trans rfl; have hfz14_0 := bf_ BK104.out 0; have hfz14_1 := bf_ BK104.out 1; have hfz14_2 := bf_ BK104.out 2))
    go_ret; exact ⟨by first | rfl | (simp [errW_none, errW_some] <;> rfl) | (simp [*, errW_none, errW_some] <;> rfl), pb1_ HB.out GE104.out⟩
  ·
   replace c5 := Bool.eq_false_iff.mpr c5; subst c5; have H1 : (some false) = some r := by rw [if_neg (show ¬ (false = true) by decide)] at H; exact H
   clear H; have H := H1; clear H1; obtain rfl := si_ H; go_enter Try.func27, Try.ntmps27
   go_wp2_with (first | ((with_reducible refine gate_dst (N := 1) rfl ?_); (try (refine gate_guard (by rfl) ?_; dsimp only)); refine box_event ?hg (N := 1) ?hd (cs := #[.int .i64 a0_0, .int .i64 a0_1, .slice A0_2 l0_2.length c0_2]) (t := 35) ?hr ?_; (case hd => rfl); (case hg => rfl); (case hr => first | (go_simp; done) | (go_simp; rfl)); intro gb104 hg w15 hbox hb; have n0_ := am_ (sp_ (pb0_ HB.out) hb); have n1_ := am_ (hbox); have n2_ := am_ ((by rw [hg]; exact (bz_ (pb0_ HB.out)) : w.heap.size ≤ gb104)); have n3_ := am_ ((by rw [hg]; exact (bz_ (pb0_ HB.out)) : w.heap.size ≤ gb104)); clear HB; have HB := n0_; have BK104 := n1_; have GW104 := n2_; have GE104 := n3_; clear n0_ n1_ n2_ n3_; clear hb hbox hg; have hcz16_0 : w15.cell? ⟨gb104, 0, none⟩ = some (.int .i64 a0_0) := (bc_ BK104.out 0).trans rfl; have hcz16_1 : w15.cell? ⟨gb104, 1, none⟩ = some (.int .i64 a0_1) := (bc_ BK104.out 1).trans rfl; have hcz16_2 : w15.cell? ⟨gb104, 2, none⟩ = some (.slice A0_2 l0_2.length c0_2) := (bc_ BK104.out 2).trans rfl; have hfz16_0 := bf_ BK104.out 0; have hfz16_1 := bf_ BK104.out 1; have hfz16_2 := bf_ BK104.out 2) | ((with_reducible refine gate_callee (f := 48) rfl ?_); refine goesL_ (some 5) rfl rfl Try.func48 (by kernel_rfl) rfl #[.int .i64 a0_0] rfl au_ ?_; (with_reducible refine (replica_number.calls a0_0 true _ A2.out).mono ?_); rintro e w' ⟨rfl, ⟨nd, rfl⟩⟩; refine ⟨_, rfl, ?_⟩) | (go_at_call 49; (with_reducible refine (replica_ascending.calls k _ _ l0_2 1 a0_0 false _ ?side1 ?side2 A4.out).mono ?_); (case side1 => repeat (first | exact (Kd.C_below HR0_2.out (pb1_ HB.out GE104.out)) | (with_reducible refine Kd.C_alloc ?_ _) | (with_reducible refine Kd.C_drewN ?_ _) | (with_reducible refine Kd.C_drew ?_))); (case side2 => exact HC0_2.out); rintro e w17 ⟨rfl, hb⟩; have n0_ := am_ (bw_ (g := gb104) (o := .cells #[.int .i64 a0_0, .int .i64 a0_1, .slice A0_2 l0_2.length c0_2] 35 (0, 0)) (pk_ BK104.out) hb); have n1_ := am_ (sp_ (pb1_ HB.out GE104.out) hb); clear BK104; clear HB; have BK104 := n0_; have HB := n1_; clear n0_ n1_; (try clear hb); (try clear hb2); (try clear hk); (try clear hi)))
   go_ret; exact ⟨by first | rfl | (simp [errW_none, errW_some] <;> rfl) | (simp [*, errW_none, errW_some] <;> rfl), pb1_ HB.out GE104.out⟩
 ·
  replace c3 := Bool.eq_false_iff.mpr c3; subst c3; have H1 : (some false) = some r := by rw [if_neg (show ¬ (false = true) by decide)] at H; exact H
  clear H; have H := H1; clear H1; obtain rfl := si_ H; go_enter Try.func27, Try.ntmps27
  go_wp2_with (first | ((with_reducible refine gate_dst (N := 1) rfl ?_); (try (refine gate_guard (by rfl) ?_; dsimp only)); refine box_event ?hg (N := 1) ?hd (cs := #[.int .i64 a0_0, .int .i64 a0_1, .slice A0_2 l0_2.length c0_2]) (t := 35) ?hr ?_; (case hd => rfl); (case hg => rfl); (case hr => first | (go_simp; done) | (go_simp; rfl)); intro gb104 hg w18 hbox hb; have n0_ := am_ (sp_ (pb0_ HB.out) hb); have n1_ := am_ (hbox); have n2_ := am_ ((by rw [hg]; exact (bz_ (pb0_ HB.out)) : w.heap.size ≤ gb104)); have n3_ := am_ ((by rw [hg]; exact (bz_ (pb0_ HB.out)) : w.heap.size ≤ gb104)); clear HB; have HB := n0_; have BK104 := n1_; have GW104 := n2_; have GE104 := n3_; clear n0_ n1_ n2_ n3_; clear hb hbox hg; have hcz19_0 : w18.cell? ⟨gb104, 0, none⟩ = some (.int .i64 a0_0) := (bc_ BK104.out 0).trans rfl; have hcz19_1 : w18.cell? ⟨gb104, 1, none⟩ = some (.int .i64 a0_1) := (bc_ BK104.out 1).trans rfl; have hcz19_2 : w18.cell? ⟨gb104, 2, none⟩ = some (.slice A0_2 l0_2.length c0_2) := (bc_ BK104.out 2).trans rfl; have hfz19_0 := bf_ BK104.out 0; have hfz19_1 := bf_ BK104.out 1; have hfz19_2 := bf_ BK104.out 2) | ((with_reducible refine gate_callee (f := 48) rfl ?_); refine goesL_ (some 5) rfl rfl Try.func48 (by kernel_rfl) rfl #[.int .i64 a0_0] rfl au_ ?_; (with_reducible refine (replica_number.calls a0_0 false _ A2.out).mono ?_); rintro e w' ⟨rfl, ⟨nd, rfl⟩⟩; refine ⟨_, rfl, ?_⟩))
  go_ret; exact ⟨by first | rfl | (simp [errW_none, errW_some] <;> rfl) | (simp [*, errW_none, errW_some] <;> rfl), pb1_ HB.out GE104.out⟩
def replica_Elect_1.f (k : Nat) (a0_0 : Int) (a0_1 : Int) (l0_2 : List (S87)) : Option (Bool) := (replica_Node_valid.f k a0_0 a0_1 l0_2).bind fun t108 => (some (!t108))
set_option maxHeartbeats 8000000 in
set_option maxRecDepth 100000 in
theorem replica_Elect_1.calls (k : Nat) (a0_0 : Int) (a0_1 : Int) (A0_2 : Option Addr) (c0_2 : Nat) (l0_2 : List (S87)) (r : Bool) (w : World) (hr0_2 : Kd.C k87 w A0_2 l0_2.length l0_2) (hc0_2 : l0_2.length ≤ c0_2) (h : replica_Elect_1.f k a0_0 a0_1 l0_2 = some r) :
  Calls Try.prog 40 #[.agg #[.int .i64 a0_0, .int .i64 a0_1, .slice A0_2 l0_2.length c0_2]] w fun e w' => e = .returned (.bool r) ∧ Below w.heap.size w w' := by
 have hu35 := Try.underlying35; have HR0_2 := am_ hr0_2; have HC0_2 := am_ hc0_2; clear hr0_2 hc0_2; have HB := am_ (Below.refl w.heap.size w); have H : ((replica_Node_valid.f k a0_0 a0_1 l0_2).bind fun t108 => (some (!t108))) = some r := h; clear h; replace H := Option.bind_eq_some_iff.mp H; obtain ⟨t108, A20, H⟩ := H; replace H : (some (!t108)) = some r := H; have A2 := am_ A20; clear A20; obtain rfl := si_ H; go_enter Try.func40, Try.ntmps40
 go_wp2_with (first | ((with_reducible refine gate_dst (N := 1) rfl ?_); refine box_event ?hg (N := 1) ?hd (cs := #[.int .i64 a0_0, .int .i64 a0_1, .slice A0_2 l0_2.length c0_2]) (t := 35) ?hr ?_; (case hd => rfl); (case hg => rfl); (case hr => first | (go_simp; done) | (go_simp; rfl)); intro gb107 hg w3 hbox hb; have n0_ := am_ (sp_ (pb0_ HB.out) hb); have n1_ := am_ (hbox); have n2_ := am_ ((by rw [hg]; exact (bz_ (pb0_ HB.out)) : w.heap.size ≤ gb107)); have n3_ := am_ ((by rw [hg]; exact (bz_ (pb0_ HB.out)) : w.heap.size ≤ gb107)); clear HB; have HB := n0_; have BK107 := n1_; have GW107 := n2_; have GE107 := n3_; clear n0_ n1_ n2_ n3_; clear hb hbox hg; have hcz4_0 : w3.cell? ⟨gb107, 0, none⟩ = some (.int .i64 a0_0) := (bc_ BK107.out 0).trans rfl; have hcz4_1 : w3.cell? ⟨gb107, 1, none⟩ = some (.int .i64 a0_1) := (bc_ BK107.out 1).trans rfl; have hcz4_2 : w3.cell? ⟨gb107, 2, none⟩ = some (.slice A0_2 l0_2.length c0_2) := (bc_ BK107.out 2).trans rfl; have hfz4_0 := bf_ BK107.out 0; have hfz4_1 := bf_ BK107.out 1; have hfz4_2 := bf_ BK107.out 2) | ((with_reducible refine gate_callee (f := 27) rfl ?_); refine goesL_ (some 4) rfl rfl Try.func27 (by kernel_rfl) rfl #[.agg #[.int .i64 a0_0, .int .i64 a0_1, .slice A0_2 l0_2.length c0_2]] rfl au_ ?_; (with_reducible refine (replica_Node_valid.calls k a0_0 a0_1 _ _ l0_2 t108 _ ?side1 ?side2 A2.out).mono ?_); (case side1 => repeat (first | exact (Kd.C_below HR0_2.out HB.out) | (with_reducible refine Kd.C_alloc ?_ _) | (with_reducible refine Kd.C_drewN ?_ _) | (with_reducible refine Kd.C_drew ?_))); (case side2 => exact HC0_2.out); rintro e w5 ⟨rfl, hb⟩; refine ⟨_, rfl, ?_⟩; have n0_ := am_ (bw_ (g := gb107) (o := .cells #[.int .i64 a0_0, .int .i64 a0_1, .slice A0_2 l0_2.length c0_2] 35 (0, 0)) (pk_ BK107.out) hb); have n1_ := am_ (sp_ (pb1_ HB.out GE107.out) hb); clear BK107; clear HB; have BK107 := n0_; have HB := n1_; clear n0_ n1_; (try clear hb); (try clear hb2); (try clear hk); (try clear hi)))
 go_ret; exact ⟨by first | rfl | (simp [errW_none, errW_some] <;> rfl) | (simp [*, errW_none, errW_some] <;> rfl), pb1_ HB.out GE107.out⟩
def replica_Node_replica_Elect_1_7700002.l0 : Nat → List (S35) → Int → Int → Option (Int)
 | 0, _, _, _ => none
 | k + 1, x0, x7, x8 => if x8 < x7 then (if 0 ≤ x8 then (if x8 < (x0.length : Int) then ((replica_Elect_1.f k ((rd_T35 x0 x8).f0) ((rd_T35 x0 x8).f1) ((rd_T35 x0 x8).f2)).bind fun t110 => (if t110 = true then (some x8) else (replica_Node_replica_Elect_1_7700002.l0 k x0 x7 (wrap64 (x8 + 1))))) else (none)) else (none)) else (some (-1))
def replica_Node_replica_Elect_1_7700002.f (k : Nat) (l0 : List (S35))  : Option (Int) := replica_Node_replica_Elect_1_7700002.l0 k l0 (l0.length : Int) 0
set_option maxHeartbeats 8000000 in
set_option maxRecDepth 100000 in
theorem replica_Node_replica_Elect_1_7700002.calls (k : Nat) (A0 : Option Addr) (c0 : Nat) (l0 : List (S35))  (r : Int) (w : World) (hr0 : Kd.C k35 w A0 l0.length l0) (hc0 : l0.length ≤ c0) (h : replica_Node_replica_Elect_1_7700002.f k l0 = some r) :
  Calls Try.prog 51 #[.slice A0 l0.length c0, .func (.func 40) #[] #[]] w fun e w' => e = .returned (.int .i64 r) ∧ Below w.heap.size w w' := by
 have hu35 := Try.underlying35; have HR0 := am_ hr0; have HC0 := am_ hc0; clear hr0 hc0; have HB := am_ (Below.refl w.heap.size w); have H : (replica_Node_replica_Elect_1_7700002.l0 k l0 (l0.length : Int) 0) = some r := h; clear h; have H' := am_ H; clear H; go_enter Try.func51, Try.ntmps51; go_wp2
 go_loopg [8] k (fun kq v8 w' => ∃ (x8_1 : Int), v8 = .int .i64 x8_1 ∧ Aside0 (replica_Node_replica_Elect_1_7700002.l0 kq l0 (l0.length : Int) x8_1 = some r) ∧ Aside0 (kq ≤ k) ∧ Aside0 (Below w.heap.size w w'))
 case atStart => exact ⟨(0), (by first | rfl | (simp; done) | (simp [*]; done)), H', ⟨Nat.le_refl _⟩, ⟨pb0_ HB.out⟩⟩
 case round =>
  clear H'
  try clear p2
  obtain ⟨x8_1, rfl, HA, HK1, HB⟩ := hrel; cases gk with
  | zero => exact absurd HA.out (by simp [replica_Node_replica_Elect_1_7700002.l0])
  | succ k1 =>
   have H := HA.out; clear HA; simp only [replica_Node_replica_Elect_1_7700002.l0] at H
   by_cases c3 : x8_1 < (l0.length : Int)
   ·
    rw [if_pos c3] at H; have c3b0 : decide (x8_1 < (l0.length : Int)) = true := de_ c3; clear c3
    by_cases c4 : 0 ≤ x8_1
    ·
     rw [if_pos c4] at H; have c4b0 : decide (0 ≤ x8_1) = true := de_ c4; clear c4
     by_cases c5 : x8_1 < (l0.length : Int)
     ·
      rw [if_pos c5] at H; have c5b0 : decide (x8_1 < (l0.length : Int)) = true := de_ c5; clear c5; replace H := Option.bind_eq_some_iff.mp H; obtain ⟨t110, A60, H⟩ := H; replace H : (if t110 = true then (some x8_1) else (replica_Node_replica_Elect_1_7700002.l0 k1 l0 (l0.length : Int) (wrap64 (x8_1 + 1)))) = some r := H; have A6 := am_ A60; clear A60
      by_cases c7 : t110 = true
      ·
       subst c7; have H1 : (some x8_1) = some r := by rw [if_pos rfl] at H; exact H
       clear H; have H := H1; clear H1; obtain rfl := si_ H; have p109 : 0 ≤ (x8_1 : Int) := ot_ (by first | (with_reducible assumption) | assumption); have q109 : x8_1 < (l0.length : Int) := ot_ (by first | (with_reducible assumption) | assumption); obtain ⟨ad109, A109_2, c109_2, e109, hx109_0, hx109_1, hx109_2, hl109_2, hi109_2⟩ := at_T35 HR0.out x8_1 p109 q109; cases e109; replace hx109_0 := (HB.out.cell (bk_ w _ hx109_0)).trans hx109_0; replace hx109_1 := (HB.out.cell (bk_ w _ hx109_1)).trans hx109_1; replace hx109_2 := (HB.out.cell (bk_ w _ hx109_2)).trans hx109_2; have HR109_2 := am_ hi109_2; have HC109_2 := am_ hl109_2; clear hi109_2 hl109_2; replace p109 := eq_true p109; replace q109 := eq_true q109
       go_wp2_with (first | ((with_reducible refine gate_calleeT (f := 40) rfl rfl ?_); refine goesT_ (some 16) rfl rfl Try.func40 (by kernel_rfl) rfl #[.agg #[.int .i64 ((rd_T35 l0 x8_1).f0), .int .i64 ((rd_T35 l0 x8_1).f1), .slice A109_2 ((rd_T35 l0 x8_1).f2).length c109_2]] rfl rfl au_ ?_; (with_reducible refine (replica_Elect_1.calls k1 ((rd_T35 l0 x8_1).f0) ((rd_T35 l0 x8_1).f1) _ _ ((rd_T35 l0 x8_1).f2) true _ ?side1 ?side2 A6.out).mono ?_); (case side1 => repeat (first | exact (Kd.C_below HR109_2.out HB.out) | (with_reducible refine Kd.C_alloc ?_ _) | (with_reducible refine Kd.C_drewN ?_ _) | (with_reducible refine Kd.C_drew ?_))); (case side2 => exact HC109_2.out); rintro e w8 ⟨rfl, hb⟩; refine ⟨_, rfl, ?_⟩; have n0_ := am_ (sp_ (pb0_ HB.out) hb); clear HB; have HB := n0_; clear n0_; (try clear hb); (try clear hb2); (try clear hk); (try clear hi)))
       go_ret; exact ⟨by first | rfl | (simp [errW_none, errW_some] <;> rfl) | (simp [*, errW_none, errW_some] <;> rfl), pb0_ HB.out⟩
      ·
       replace c7 := Bool.eq_false_iff.mpr c7; subst c7; have H1 : (replica_Node_replica_Elect_1_7700002.l0 k1 l0 (l0.length : Int) (wrap64 (x8_1 + 1))) = some r := by rw [if_neg (show ¬ (false = true) by decide)] at H; exact H
       clear H; have H := H1; clear H1; have H' := am_ H; clear H; have p109 : 0 ≤ (x8_1 : Int) := ot_ (by first | (with_reducible assumption) | assumption); have q109 : x8_1 < (l0.length : Int) := ot_ (by first | (with_reducible assumption) | assumption); obtain ⟨ad109, A109_2, c109_2, e109, hx109_0, hx109_1, hx109_2, hl109_2, hi109_2⟩ := at_T35 HR0.out x8_1 p109 q109; cases e109; replace hx109_0 := (HB.out.cell (bk_ w _ hx109_0)).trans hx109_0; replace hx109_1 := (HB.out.cell (bk_ w _ hx109_1)).trans hx109_1; replace hx109_2 := (HB.out.cell (bk_ w _ hx109_2)).trans hx109_2; have HR109_2 := am_ hi109_2; have HC109_2 := am_ hl109_2; clear hi109_2 hl109_2; replace p109 := eq_true p109; replace q109 := eq_true q109
       go_wp2_with (first | ((with_reducible refine gate_calleeT (f := 40) rfl rfl ?_); refine goesT_ (some 16) rfl rfl Try.func40 (by kernel_rfl) rfl #[.agg #[.int .i64 ((rd_T35 l0 x8_1).f0), .int .i64 ((rd_T35 l0 x8_1).f1), .slice A109_2 ((rd_T35 l0 x8_1).f2).length c109_2]] rfl rfl au_ ?_; (with_reducible refine (replica_Elect_1.calls k1 ((rd_T35 l0 x8_1).f0) ((rd_T35 l0 x8_1).f1) _ _ ((rd_T35 l0 x8_1).f2) false _ ?side1 ?side2 A6.out).mono ?_); (case side1 => repeat (first | exact (Kd.C_below HR109_2.out HB.out) | (with_reducible refine Kd.C_alloc ?_ _) | (with_reducible refine Kd.C_drewN ?_ _) | (with_reducible refine Kd.C_drew ?_))); (case side2 => exact HC109_2.out); rintro e w9 ⟨rfl, hb⟩; refine ⟨_, rfl, ?_⟩; have n0_ := am_ (sp_ (pb0_ HB.out) hb); clear HB; have HB := n0_; clear n0_; (try clear hb); (try clear hb2); (try clear hk); (try clear hi)))
       go_roundg k1
       case measure => have := HK1.out; omega
       case rel => exact ⟨(wrap64 (x8_1 + 1)), (by first | rfl | (simp; done) | (simp [*]; done)), H', ⟨by have := HK1.out; omega⟩, ⟨pb0_ HB.out⟩⟩
     ·
      rw [if_neg c5] at H; exact absurd H (by simp)
    ·
     rw [if_neg c4] at H; exact absurd H (by simp)
   ·
    rw [if_neg c3] at H; have c3b0 : decide (x8_1 < (l0.length : Int)) = false := df_ c3; clear c3; obtain rfl := si_ H; go_wp2; go_ret; exact ⟨by first | rfl | (simp [errW_none, errW_some] <;> rfl) | (simp [*, errW_none, errW_some] <;> rfl), pb0_ HB.out⟩
def replica_Node_replica_Elect_1_7700001.f (k : Nat) (l0 : List (S35))  : Option (Bool) := (replica_Node_replica_Elect_1_7700002.f k l0).bind fun t111 => (some (decide (t111 ≥ 0)))
set_option maxHeartbeats 8000000 in
set_option maxRecDepth 100000 in
theorem replica_Node_replica_Elect_1_7700001.calls (k : Nat) (A0 : Option Addr) (c0 : Nat) (l0 : List (S35))  (r : Bool) (w : World) (hr0 : Kd.C k35 w A0 l0.length l0) (hc0 : l0.length ≤ c0) (h : replica_Node_replica_Elect_1_7700001.f k l0 = some r) :
  Calls Try.prog 39 #[.slice A0 l0.length c0, .func (.func 40) #[] #[]] w fun e w' => e = .returned (.bool r) ∧ Below w.heap.size w w' := by
 have HR0 := am_ hr0; have HC0 := am_ hc0; clear hr0 hc0; have HB := am_ (Below.refl w.heap.size w); have H : ((replica_Node_replica_Elect_1_7700002.f k l0).bind fun t111 => (some (decide (t111 ≥ 0)))) = some r := h; clear h; replace H := Option.bind_eq_some_iff.mp H; obtain ⟨t111, A30, H⟩ := H; replace H : (some (decide (t111 ≥ 0))) = some r := H; have A3 := am_ A30; clear A30; obtain rfl := si_ H; go_enter Try.func39, Try.ntmps39
 go_wp2_with (first | ((with_reducible refine gate_callee (f := 51) rfl ?_); refine goesL_ (some 7) rfl rfl Try.func51 (by kernel_rfl) rfl #[.slice A0 l0.length c0, .func (.func 40) #[] #[]] rfl au_ ?_; (with_reducible refine (replica_Node_replica_Elect_1_7700002.calls k _ _ l0 t111 _ ?side1 ?side2 A3.out).mono ?_); (case side1 => repeat (first | exact HR0.out | (with_reducible refine Kd.C_alloc ?_ _) | (with_reducible refine Kd.C_drewN ?_ _) | (with_reducible refine Kd.C_drew ?_))); (case side2 => exact HC0.out); rintro e w4 ⟨rfl, hb⟩; refine ⟨_, rfl, ?_⟩; have n0_ := am_ (sp_ (pb0_ HB.out) hb); clear HB; have HB := n0_; clear n0_; (try clear hb); (try clear hb2); (try clear hk); (try clear hi)))
 go_ret; exact ⟨by first | rfl | (simp [errW_none, errW_some] <;> rfl) | (simp [*, errW_none, errW_some] <;> rfl), pb0_ HB.out⟩
def replica_Node_end.f (a0_0 : Int) (a0_1 : Int) (l0_2 : List (S87)) (a1 : Int) : Option (Int) := if a1 = 0 then (some 0) else (if 0 ≤ (wrap64 (a1 - 1)) then (if (wrap64 (a1 - 1)) < (l0_2.length : Int) then (some ((rd_T87 l0_2 (wrap64 (a1 - 1))).f0)) else (none)) else (none))
set_option maxHeartbeats 8000000 in
set_option maxRecDepth 100000 in
theorem replica_Node_end.calls (a0_0 : Int) (a0_1 : Int) (A0_2 : Option Addr) (c0_2 : Nat) (l0_2 : List (S87)) (a1 : Int) (r : Int) (w : World) (hr0_2 : Kd.C k87 w A0_2 l0_2.length l0_2) (hc0_2 : l0_2.length ≤ c0_2) (h : replica_Node_end.f a0_0 a0_1 l0_2 a1 = some r) :
  Calls Try.prog 28 #[.agg #[.int .i64 a0_0, .int .i64 a0_1, .slice A0_2 l0_2.length c0_2], .int .i64 a1] w fun e w' => e = .returned (.int .i64 r) ∧ Below w.heap.size w w' := by
 have hu35 := Try.underlying35; have HR0_2 := am_ hr0_2; have HC0_2 := am_ hc0_2; clear hr0_2 hc0_2; have HB := am_ (Below.refl w.heap.size w); have H : (if a1 = 0 then (some 0) else (if 0 ≤ (wrap64 (a1 - 1)) then (if (wrap64 (a1 - 1)) < (l0_2.length : Int) then (some ((rd_T87 l0_2 (wrap64 (a1 - 1))).f0)) else (none)) else (none))) = some r := h; clear h
 by_cases c3 : a1 = 0
 ·
  rw [if_pos c3] at H; have c3b0 : (a1 == 0) = true := beq_iff_eq.mpr c3; have c3b1 : (a1 != 0) = false := bne_eq_false_iff_eq.mpr c3; clear c3; obtain rfl := si_ H; go_enter Try.func28, Try.ntmps28
  go_wp2_with (first | ((with_reducible refine gate_dst (N := 2) rfl ?_); refine box_event ?hg (N := 2) ?hd (cs := #[.int .i64 a0_0, .int .i64 a0_1, .slice A0_2 l0_2.length c0_2]) (t := 35) ?hr ?_; (case hd => rfl); (case hg => rfl); (case hr => first | (go_simp; done) | (go_simp; rfl)); intro gb112 hg w4 hbox hb; have n0_ := am_ (sp_ (pb0_ HB.out) hb); have n1_ := am_ (hbox); have n2_ := am_ ((by rw [hg]; exact (bz_ (pb0_ HB.out)) : w.heap.size ≤ gb112)); have n3_ := am_ ((by rw [hg]; exact (bz_ (pb0_ HB.out)) : w.heap.size ≤ gb112)); clear HB; have HB := n0_; have BK112 := n1_; have GW112 := n2_; have GE112 := n3_; clear n0_ n1_ n2_ n3_; clear hb hbox hg))
  go_ret; exact ⟨by first | rfl | (simp [errW_none, errW_some] <;> rfl) | (simp [*, errW_none, errW_some] <;> rfl), pb1_ HB.out GE112.out⟩
 ·
  rw [if_neg c3] at H; have c3b0 : (a1 == 0) = false := beq_eq_false_iff_ne.mpr c3; have c3b1 : (a1 != 0) = true := bne_iff_ne.mpr c3; obtain ⟨ji5, hji5⟩ : ∃ j_ : Int, (wrap64 (a1 - 1)) = j_ := ⟨_, rfl⟩; replace H : (if 0 ≤ (ji5) then (if (ji5) < (l0_2.length : Int) then (some ((rd_T87 l0_2 (ji5)).f0)) else (none)) else (none)) = some r := by first | (rw [hji5] at H; exact H) | (simp only [hji5] at H ⊢; exact H)
  have hji5w : (IntKind.i64.wrap (a1 - 1)) = ji5 := (i64_w _).trans hji5
  by_cases c6 : 0 ≤ (ji5)
  ·
   rw [if_pos c6] at H; have c6b0 : decide (0 ≤ (ji5)) = true := de_ c6; clear c6
   by_cases c7 : (ji5) < (l0_2.length : Int)
   ·
    rw [if_pos c7] at H; have c7b0 : decide ((ji5) < (l0_2.length : Int)) = true := de_ c7; clear c7; obtain rfl := si_ H; go_enter Try.func28, Try.ntmps28
    go_wp2_with (first | ((with_reducible refine gate_dst (N := 2) rfl ?_); refine box_event ?hg (N := 2) ?hd (cs := #[.int .i64 a0_0, .int .i64 a0_1, .slice A0_2 l0_2.length c0_2]) (t := 35) ?hr ?_; (case hd => rfl); (case hg => rfl); (case hr => first | (go_simp; done) | (go_simp; rfl)); intro gb112 hg w8 hbox hb; have n0_ := am_ (sp_ (pb0_ HB.out) hb); have n1_ := am_ (hbox); have n2_ := am_ ((by rw [hg]; exact (bz_ (pb0_ HB.out)) : w.heap.size ≤ gb112)); have n3_ := am_ ((by rw [hg]; exact (bz_ (pb0_ HB.out)) : w.heap.size ≤ gb112)); clear HB; have HB := n0_; have BK112 := n1_; have GW112 := n2_; have GE112 := n3_; clear n0_ n1_ n2_ n3_; clear hb hbox hg; have hcz9_0 : w8.cell? ⟨gb112, 0, none⟩ = some (.int .i64 a0_0) := (bc_ BK112.out 0).trans rfl; have hcz9_1 : w8.cell? ⟨gb112, 1, none⟩ = some (.int .i64 a0_1) := (bc_ BK112.out 1).trans rfl; have hcz9_2 : w8.cell? ⟨gb112, 2, none⟩ = some (.slice A0_2 l0_2.length c0_2) := (bc_ BK112.out 2).trans rfl; have hfz9_0 := bf_ BK112.out 0; have hfz9_1 := bf_ BK112.out 1; have hfz9_2 := bf_ BK112.out 2; have p113 : 0 ≤ ((ji5) : Int) := ot_ (by first | (with_reducible assumption) | assumption); have q113 : (ji5) < (l0_2.length : Int) := ot_ (by first | (with_reducible assumption) | assumption); obtain ⟨ad113, A113_1, c113_1, e113, hx113_0, hx113_1, hl113_1, hi113_1⟩ := at_T87 HR0_2.out (ji5) p113 q113; cases e113; replace hx113_0 := (HB.out.cell (bk_ w _ hx113_0)).trans hx113_0; replace hx113_1 := (HB.out.cell (bk_ w _ hx113_1)).trans hx113_1; have HR113_1 := am_ hi113_1; have HC113_1 := am_ hl113_1; clear hi113_1 hl113_1; replace p113 := eq_true p113; replace q113 := eq_true q113))
    go_ret; exact ⟨by first | rfl | (simp [errW_none, errW_some] <;> rfl) | (simp only [← hji5]; first | rfl | (simp [errW_none, errW_some] <;> rfl)) | (simp [*, errW_none, errW_some] <;> rfl), pb1_ HB.out GE112.out⟩
   ·
    rw [if_neg c7] at H; exact absurd H (by simp)
  ·
   rw [if_neg c6] at H; exact absurd H (by simp)
def cmp_isNaN_int.f (a0 : Int) : Option (Bool) := some (a0 != a0)
set_option maxHeartbeats 8000000 in
set_option maxRecDepth 100000 in
theorem cmp_isNaN_int.calls (a0 : Int) (r : Bool) (w : World) (h : cmp_isNaN_int.f a0 = some r) :
  Calls Try.prog 56 #[.int .i64 a0] w fun e w' => e = .returned (.bool r) ∧ Drawn0 w w' := by
 have H : (some (a0 != a0)) = some r := h; clear h; obtain rfl := si_ H; go_enter Try.func56, Try.ntmps56; go_wp2; go_ret; exact ⟨by first | rfl | (simp; done) | (simp [*]; done), by repeat (first | exact Drawn0.refl _ | apply Drawn0.step)⟩
def cmp_Compare_int.f (a0 : Int) (a1 : Int) : Option (Int) := (cmp_isNaN_int.f a0).bind fun t114 => ((cmp_isNaN_int.f a1).bind fun t115 => (if t114 = true then (if t115 = true then (some 0) else (some (-1))) else (if t115 = true then (some 1) else (if a0 < a1 then (some (-1)) else (if a0 > a1 then (some 1) else (some 0))))))
set_option maxHeartbeats 8000000 in
set_option maxRecDepth 100000 in
theorem cmp_Compare_int.calls (a0 : Int) (a1 : Int) (r : Int) (w : World) (h : cmp_Compare_int.f a0 a1 = some r) :
  Calls Try.prog 53 #[.int .i64 a0, .int .i64 a1] w fun e w' => e = .returned (.int .i64 r) ∧ Drawn0 w w' := by
 have H : ((cmp_isNaN_int.f a0).bind fun t114 => ((cmp_isNaN_int.f a1).bind fun t115 => (if t114 = true then (if t115 = true then (some 0) else (some (-1))) else (if t115 = true then (some 1) else (if a0 < a1 then (some (-1)) else (if a0 > a1 then (some 1) else (some 0))))))) = some r := h; clear h; replace H := Option.bind_eq_some_iff.mp H; obtain ⟨t114, A30, H⟩ := H; replace H : ((cmp_isNaN_int.f a1).bind fun t115 => (if t114 = true then (if t115 = true then (some 0) else (some (-1))) else (if t115 = true then (some 1) else (if a0 < a1 then (some (-1)) else (if a0 > a1 then (some 1) else (some 0)))))) = some r := H; have A3 := am_ A30; clear A30; replace H := Option.bind_eq_some_iff.mp H; obtain ⟨t115, A40, H⟩ := H; replace H : (if t114 = true then (if t115 = true then (some 0) else (some (-1))) else (if t115 = true then (some 1) else (if a0 < a1 then (some (-1)) else (if a0 > a1 then (some 1) else (some 0))))) = some r := H; have A4 := am_ A40; clear A40
 by_cases c5 : t114 = true
 ·
  subst c5; have H1 : (if t115 = true then (some 0) else (some (-1))) = some r := by rw [if_pos rfl] at H; exact H
  clear H; have H := H1; clear H1
  by_cases c6 : t115 = true
  ·
   subst c6; have H1 : (some 0) = some r := by rw [if_pos rfl] at H; exact H
   clear H; have H := H1; clear H1; obtain rfl := si_ H; go_enter Try.func53, Try.ntmps53
   go_wp2_with (first | ((with_reducible refine gate_callee (f := 56) rfl ?_); refine goesL_ (some 8) rfl rfl Try.func56 (by kernel_rfl) rfl #[.int .i64 a0] rfl au_ ?_; (with_reducible refine (cmp_isNaN_int.calls a0 true _ A3.out).mono ?_); rintro e w' ⟨rfl, ⟨nd, rfl⟩⟩; refine ⟨_, rfl, ?_⟩) | ((with_reducible refine gate_callee (f := 56) rfl ?_); refine goesL_ (some 10) rfl rfl Try.func56 (by kernel_rfl) rfl #[.int .i64 a1] rfl au_ ?_; (with_reducible refine (cmp_isNaN_int.calls a1 true _ A4.out).mono ?_); rintro e w' ⟨rfl, ⟨nd, rfl⟩⟩; refine ⟨_, rfl, ?_⟩))
   go_ret; exact ⟨by first | rfl | (simp; done) | (simp [*]; done), by repeat (first | exact Drawn0.refl _ | apply Drawn0.step)⟩
  ·
   replace c6 := Bool.eq_false_iff.mpr c6; subst c6; have H1 : (some (-1)) = some r := by rw [if_neg (show ¬ (false = true) by decide)] at H; exact H
   clear H; have H := H1; clear H1; obtain rfl := si_ H; go_enter Try.func53, Try.ntmps53
   go_wp2_with (first | ((with_reducible refine gate_callee (f := 56) rfl ?_); refine goesL_ (some 8) rfl rfl Try.func56 (by kernel_rfl) rfl #[.int .i64 a0] rfl au_ ?_; (with_reducible refine (cmp_isNaN_int.calls a0 true _ A3.out).mono ?_); rintro e w' ⟨rfl, ⟨nd, rfl⟩⟩; refine ⟨_, rfl, ?_⟩) | ((with_reducible refine gate_callee (f := 56) rfl ?_); refine goesL_ (some 10) rfl rfl Try.func56 (by kernel_rfl) rfl #[.int .i64 a1] rfl au_ ?_; (with_reducible refine (cmp_isNaN_int.calls a1 false _ A4.out).mono ?_); rintro e w' ⟨rfl, ⟨nd, rfl⟩⟩; refine ⟨_, rfl, ?_⟩))
   go_ret; exact ⟨by first | rfl | (simp; done) | (simp [*]; done), by repeat (first | exact Drawn0.refl _ | apply Drawn0.step)⟩
 ·
  replace c5 := Bool.eq_false_iff.mpr c5; subst c5; have H1 : (if t115 = true then (some 1) else (if a0 < a1 then (some (-1)) else (if a0 > a1 then (some 1) else (some 0)))) = some r := by rw [if_neg (show ¬ (false = true) by decide)] at H; exact H
  clear H; have H := H1; clear H1
  by_cases c7 : t115 = true
  ·
   subst c7; have H1 : (some 1) = some r := by rw [if_pos rfl] at H; exact H
   clear H; have H := H1; clear H1; obtain rfl := si_ H; go_enter Try.func53, Try.ntmps53
   go_wp2_with (first | ((with_reducible refine gate_callee (f := 56) rfl ?_); refine goesL_ (some 8) rfl rfl Try.func56 (by kernel_rfl) rfl #[.int .i64 a0] rfl au_ ?_; (with_reducible refine (cmp_isNaN_int.calls a0 false _ A3.out).mono ?_); rintro e w' ⟨rfl, ⟨nd, rfl⟩⟩; refine ⟨_, rfl, ?_⟩) | ((with_reducible refine gate_callee (f := 56) rfl ?_); refine goesL_ (some 10) rfl rfl Try.func56 (by kernel_rfl) rfl #[.int .i64 a1] rfl au_ ?_; (with_reducible refine (cmp_isNaN_int.calls a1 true _ A4.out).mono ?_); rintro e w' ⟨rfl, ⟨nd, rfl⟩⟩; refine ⟨_, rfl, ?_⟩))
   go_ret; exact ⟨by first | rfl | (simp; done) | (simp [*]; done), by repeat (first | exact Drawn0.refl _ | apply Drawn0.step)⟩
  ·
   replace c7 := Bool.eq_false_iff.mpr c7; subst c7; have H1 : (if a0 < a1 then (some (-1)) else (if a0 > a1 then (some 1) else (some 0))) = some r := by rw [if_neg (show ¬ (false = true) by decide)] at H; exact H
   clear H; have H := H1; clear H1
   by_cases c8 : a0 < a1
   ·
    rw [if_pos c8] at H; have c8b0 : decide (a0 < a1) = true := de_ c8; clear c8; obtain rfl := si_ H; go_enter Try.func53, Try.ntmps53
    go_wp2_with (first | ((with_reducible refine gate_callee (f := 56) rfl ?_); refine goesL_ (some 8) rfl rfl Try.func56 (by kernel_rfl) rfl #[.int .i64 a0] rfl au_ ?_; (with_reducible refine (cmp_isNaN_int.calls a0 false _ A3.out).mono ?_); rintro e w' ⟨rfl, ⟨nd, rfl⟩⟩; refine ⟨_, rfl, ?_⟩) | ((with_reducible refine gate_callee (f := 56) rfl ?_); refine goesL_ (some 10) rfl rfl Try.func56 (by kernel_rfl) rfl #[.int .i64 a1] rfl au_ ?_; (with_reducible refine (cmp_isNaN_int.calls a1 false _ A4.out).mono ?_); rintro e w' ⟨rfl, ⟨nd, rfl⟩⟩; refine ⟨_, rfl, ?_⟩))
    go_ret; exact ⟨by first | rfl | (simp; done) | (simp [*]; done), by repeat (first | exact Drawn0.refl _ | apply Drawn0.step)⟩
   ·
    rw [if_neg c8] at H; have c8b0 : decide (a0 < a1) = false := df_ c8; clear c8
    by_cases c9 : a0 > a1
    ·
     rw [if_pos c9] at H; have c9b0 : decide (a1 < a0) = true := de_ c9; clear c9; obtain rfl := si_ H; go_enter Try.func53, Try.ntmps53
     go_wp2_with (first | ((with_reducible refine gate_callee (f := 56) rfl ?_); refine goesL_ (some 8) rfl rfl Try.func56 (by kernel_rfl) rfl #[.int .i64 a0] rfl au_ ?_; (with_reducible refine (cmp_isNaN_int.calls a0 false _ A3.out).mono ?_); rintro e w' ⟨rfl, ⟨nd, rfl⟩⟩; refine ⟨_, rfl, ?_⟩) | ((with_reducible refine gate_callee (f := 56) rfl ?_); refine goesL_ (some 10) rfl rfl Try.func56 (by kernel_rfl) rfl #[.int .i64 a1] rfl au_ ?_; (with_reducible refine (cmp_isNaN_int.calls a1 false _ A4.out).mono ?_); rintro e w' ⟨rfl, ⟨nd, rfl⟩⟩; refine ⟨_, rfl, ?_⟩))
     go_ret; exact ⟨by first | rfl | (simp; done) | (simp [*]; done), by repeat (first | exact Drawn0.refl _ | apply Drawn0.step)⟩
    ·
     rw [if_neg c9] at H; have c9b0 : decide (a1 < a0) = false := df_ c9; clear c9; obtain rfl := si_ H; go_enter Try.func53, Try.ntmps53
     go_wp2_with (first | ((with_reducible refine gate_callee (f := 56) rfl ?_); refine goesL_ (some 8) rfl rfl Try.func56 (by kernel_rfl) rfl #[.int .i64 a0] rfl au_ ?_; (with_reducible refine (cmp_isNaN_int.calls a0 false _ A3.out).mono ?_); rintro e w' ⟨rfl, ⟨nd, rfl⟩⟩; refine ⟨_, rfl, ?_⟩) | ((with_reducible refine gate_callee (f := 56) rfl ?_); refine goesL_ (some 10) rfl rfl Try.func56 (by kernel_rfl) rfl #[.int .i64 a1] rfl au_ ?_; (with_reducible refine (cmp_isNaN_int.calls a1 false _ A4.out).mono ?_); rintro e w' ⟨rfl, ⟨nd, rfl⟩⟩; refine ⟨_, rfl, ?_⟩))
     go_ret; exact ⟨by first | rfl | (simp; done) | (simp [*]; done), by repeat (first | exact Drawn0.refl _ | apply Drawn0.step)⟩
def cmp_Or_int.l0 : Nat → Int → List Int → Int → Int → Option (Int)
 | 0, _, _, _, _ => none
 | k + 1, x3, x6, x7, x8 => if x8 < x7 then (if 0 ≤ x8 then (if x8 < (x6.length : Int) then (if (rd x6 x8) = x3 then (cmp_Or_int.l0 k x3 x6 x7 (wrap64 (x8 + 1))) else (some (rd x6 x8))) else (none)) else (none)) else (some x3)
def cmp_Or_int.f (k : Nat) (l0 : List Int) : Option (Int) := cmp_Or_int.l0 k 0 l0 (l0.length : Int) 0
set_option maxHeartbeats 8000000 in
set_option maxRecDepth 100000 in
theorem cmp_Or_int.calls (k : Nat) (A0 : Option Addr) (c0 : Nat) (l0 : List Int) (r : Int) (w : World) (hr0 : Kd.C (Kd.int .i64) w A0 l0.length l0) (hc0 : l0.length ≤ c0) (h : cmp_Or_int.f k l0 = some r) :
  Calls Try.prog 52 #[.slice A0 l0.length c0] w fun e w' => e = .returned (.int .i64 r) ∧ Drawn0 w w' := by
 have HR0 := am_ hr0; have HC0 := am_ hc0; clear hr0 hc0; have H : (cmp_Or_int.l0 k 0 l0 (l0.length : Int) 0) = some r := h; clear h; have H' := am_ H; clear H; go_enter Try.func52, Try.ntmps52; go_wp2
 go_loopg [8] k (fun kq v8 w' => ∃ (x8_1 : Int), v8 = .int .i64 x8_1 ∧ Aside0 (cmp_Or_int.l0 kq 0 l0 (l0.length : Int) x8_1 = some r) ∧ Aside0 (kq ≤ k) ∧ Drawn0 w w')
 case atStart => exact ⟨(0), (by first | rfl | (simp; done) | (simp [*]; done)), H', ⟨Nat.le_refl _⟩, by repeat (first | exact Drawn0.refl _ | apply Drawn0.step)⟩
 case round =>
  clear H'; obtain ⟨x8_1, rfl, HA, HK1, ⟨m1, rfl⟩⟩ := hrel; cases gk with
  | zero => exact absurd HA.out (by simp [cmp_Or_int.l0])
  | succ k1 =>
   have H := HA.out; clear HA; simp only [cmp_Or_int.l0] at H
   by_cases c2 : x8_1 < (l0.length : Int)
   ·
    rw [if_pos c2] at H; have c2b0 : decide (x8_1 < (l0.length : Int)) = true := de_ c2; clear c2
    by_cases c3 : 0 ≤ x8_1
    ·
     rw [if_pos c3] at H; have c3b0 : decide (0 ≤ x8_1) = true := de_ c3; clear c3
     by_cases c4 : x8_1 < (l0.length : Int)
     ·
      rw [if_pos c4] at H; have c4b0 : decide (x8_1 < (l0.length : Int)) = true := de_ c4; clear c4
      by_cases c5 : (rd l0 x8_1) = 0
      ·
       rw [if_pos c5] at H; have c5b0 : ((rd l0 x8_1) == 0) = true := beq_iff_eq.mpr c5; have c5b1 : ((rd l0 x8_1) != 0) = false := bne_eq_false_iff_eq.mpr c5; clear c5; have H' := am_ H; clear H; have p116 : 0 ≤ (x8_1 : Int) := ot_ (by first | (with_reducible assumption) | assumption); have q116 : x8_1 < (l0.length : Int) := ot_ (by first | (with_reducible assumption) | assumption); obtain ⟨ad116, e116, hx116_0⟩ := Kd.at_int HR0.out x8_1 p116 q116; cases e116; replace p116 := eq_true p116; replace q116 := eq_true q116; go_wp2
       go_roundg k1
       case measure => have := HK1.out; omega
       case rel => exact ⟨(wrap64 (x8_1 + 1)), (by first | rfl | (simp; done) | (simp [*]; done)), H', ⟨by have := HK1.out; omega⟩, by repeat (first | exact Drawn0.refl _ | apply Drawn0.step)⟩
      ·
       rw [if_neg c5] at H; have c5b0 : ((rd l0 x8_1) == 0) = false := beq_eq_false_iff_ne.mpr c5; have c5b1 : ((rd l0 x8_1) != 0) = true := bne_iff_ne.mpr c5; obtain rfl := si_ H; have p116 : 0 ≤ (x8_1 : Int) := ot_ (by first | (with_reducible assumption) | assumption); have q116 : x8_1 < (l0.length : Int) := ot_ (by first | (with_reducible assumption) | assumption); obtain ⟨ad116, e116, hx116_0⟩ := Kd.at_int HR0.out x8_1 p116 q116; cases e116; replace p116 := eq_true p116; replace q116 := eq_true q116; go_wp2; go_ret; exact ⟨by first | rfl | (simp; done) | (simp [*]; done), by repeat (first | exact Drawn0.refl _ | apply Drawn0.step)⟩
     ·
      rw [if_neg c4] at H; exact absurd H (by simp)
    ·
     rw [if_neg c3] at H; exact absurd H (by simp)
   ·
    rw [if_neg c2] at H; have c2b0 : decide (x8_1 < (l0.length : Int)) = false := df_ c2; clear c2; obtain rfl := si_ H; go_wp2; go_ret; exact ⟨by first | rfl | (simp; done) | (simp [*]; done), by repeat (first | exact Drawn0.refl _ | apply Drawn0.step)⟩
end Go.Proofs.Ytbigcpjlahkggaa.Q
end
section
namespace Go.Proofs.Ytbigcpjlahkggaa.Q
open Go.RowKit Go.Proofs.YtbigcpjlahkggaaW.PrintWords Go.Proofs.YtbigcpjlahkggaaW.PrintLast Go.Proofs.YtbigcpjlahkggaaW.PrintMore
attribute [local go_sem] max2_int min2_int max_two min_two max_three min_three max_four min_four
attribute [local go_sem ↓] isSome_setCell
attribute [local go_sem] string_gtr
set_option linter.unusedVariables false
set_option linter.unusedSimpArgs false
theorem clone_info : (Try.prog.info? 5).map (fun i => (i.zero, i.size, i.bytes)) = some (some (.int .u8 0), 1, 1) := by kernel_rfl
def slices_Clone_byte_byte.f (l0 : List Int) : Option (List Int) := if l0.length ≤ 140737488355328 then some l0 else none
theorem bytes_cells {w : World} {A : Option Addr} {xs : List Int} (h : Kd.C (Kd.int .u8) w A xs.length xs) (hp : 0 < xs.length) : ∃ ad, A = some ad ∧ ∀ (j : Nat) u, (nums .u8 xs)[j]? = some u → w.cell? (ad.add j) = some u := by
 obtain ⟨ad, e, hc⟩ := h.2.2 hp; refine ⟨ad, e, fun j u hu => ?_⟩
 unfold nums at hu
 rw [List.getElem?_map] at hu; obtain ⟨x, hx, rfl⟩ := Option.map_eq_some_iff.1 hu; obtain ⟨c, hl, hk, hcell⟩ := hc j x hx; obtain rfl : c = [.int .u8 x] := hk; have := hcell 0 (.int .u8 x) rfl; rw [show (Kd.int .u8).sz = 1 from rfl, Nat.mul_one, Nat.add_zero] at this; exact this
set_option maxHeartbeats 2000000 in
set_option maxRecDepth 100000 in
theorem clone_some (a : Addr) (c : Nat) (xs : List Int) (w : World) (hbig : xs.length ≤ 140737488355328) (hc : ∀ (j : Nat) u, (nums .u8 xs)[j]? = some u → w.cell? (a.add j) = some u) :
  Calls Try.prog 34 #[.slice (some a) xs.length c] w fun e w' => ∃ v', e = .returned v' ∧ w'.ownsRow w.heap.size 5 1 v' xs.length (nums .u8 xs) ∧ Below w.heap.size w w' := by
 obtain ⟨i0, hi, hz0, hz1, hz2⟩ := info_parts clone_info; have q25 : ∀ (w : World) (a : Option Addr) (n c n' c' : Nat), (binOp .eql 25 (.slice a n c) (.slice none n' c')).run Try.prog w = .ok (.bool a.isNone) w := fun w a n c n' c' => Lib.run_eql_slice_nil w _ _ a n c n' c' Try.underlying25
 have HA := am_ hc; have hlen : (nums .u8 xs).length = xs.length * 1 := by simp [nums]
 have HL := am_ hlen; clear hc hlen; go_enter Try.func34, Try.ntmps34
 go_wp2_with (at_builtin; refine wpList_append_own _ rfl _ _ 25 rfl w.heap.size 5 i0 (.int .u8 0) 1 1 Try.underlying25 hi hz0 hz1 hz2 rfl (by decide) _ _ _ rfl (World.ownsRow_made w #[] 0 (Nat.le_refl _) (Nat.zero_le _) (by simp)) a xs.length c (nums .u8 xs) rfl ?qc1 ?qc2 ?qc3 ?qc4 ?qc5 ?qc6 ?_)
 case qc1 => exact HL.out
 case qc2 =>
  intro j u hj; exact Lib.cell?_alloc_some _ (HA.out j u hj)
 case qc3 =>
  intro u hu
  unfold nums at hu
  obtain ⟨x, _, rfl⟩ := List.mem_map.1 hu; rfl
 case qc4 => rw [Nat.zero_add]; unfold maxLen; omega
 case qc5 => rw [Nat.zero_add]; omega
 case qc6 => simp
 intro v' w1 hown hgrow hnil; go_wp2; go_ret; refine ⟨v', rfl, by simpa using hown, ?_⟩; exact ((Below.refl _ w).alloc (Nat.le_refl _) _).grown hgrow (by simp) (by intro k hk; simp [Value.ownBlock] at hk; omega)
set_option maxHeartbeats 2000000 in
theorem clone_nil (n c : Nat) (w : World) : Calls Try.prog 34 #[.slice none n c] w fun e w' => e = .returned (.slice none 0 0) ∧ w' = w := by
 have q25 : ∀ (w : World) (a : Option Addr) (n c n' c' : Nat), (binOp .eql 25 (.slice a n c) (.slice none n' c')).run Try.prog w = .ok (.bool a.isNone) w := fun w a n c n' c' => Lib.run_eql_slice_nil w _ _ a n c n' c' Try.underlying25
 go_enter Try.func34, Try.ntmps34; go_wp2; go_ret; exact ⟨rfl, rfl⟩
theorem slices_Clone_byte_byte.calls (P0_ : Nat → Prop) (A0 : Option Addr) (c0 : Nat) (l0 : List Int) (r : List Int) (w : World) (hs0 : Kd.V (Kd.int .u8) 5 w w.heap.size (fun k_ => P0_ k_) (.slice A0 l0.length c0) l0) (h : slices_Clone_byte_byte.f l0 = some r) :
  Calls Try.prog 34 #[.slice A0 l0.length c0] w fun e w' => ∃ v0_ : Value, e = .returned (v0_) ∧ Kd.V (Kd.int .u8) 5 w' w.heap.size (fun k_ => (P0_ k_ ∨ w.heap.size ≤ k_)) v0_ r ∧ Below w.heap.size w w' := by
 unfold slices_Clone_byte_byte.f at h
 split at h
 case isFalse => cases h
 rename_i hb
 obtain rfl := si_ h; obtain ⟨_, _, hC⟩ := Kd.V_reads' hs0
 have fin : ∀ a, A0 = some a → (∀ (j : Nat) u, (nums .u8 l0)[j]? = some u → w.cell? (a.add j) = some u) → Calls Try.prog 34 #[.slice A0 l0.length c0] w fun e w' => ∃ v0_ : Value, e = .returned (v0_) ∧ Kd.V (Kd.int .u8) 5 w' w.heap.size (fun k_ => (P0_ k_ ∨ w.heap.size ≤ k_)) v0_ l0 ∧ Below w.heap.size w w' := by
  rintro a rfl hc; refine (clone_some a c0 l0 w hb hc).mono ?_; rintro e w' ⟨v', rfl, ho, hbl⟩; refine ⟨v', rfl, ?_, hbl⟩; have hR : (Kd.int .u8).R 5 w' w.heap.size (fun k_ => (P0_ k_ ∨ w.heap.size ≤ k_)) v' l0 := Kd.R_of_own ho (fun k hk => .inr (own_base ho k hk)); exact Kd.R_V hR
 by_cases hp : 0 < l0.length
 ·
  obtain ⟨ad, e, hc⟩ := bytes_cells hC hp; exact fin ad e hc
 ·
  obtain rfl : l0 = [] := List.length_eq_zero_iff.1 (by omega); cases A0 with
  | some a => exact fin a rfl (fun j u hu => by simp [nums] at hu)
  | none =>
   refine (clone_nil _ _ w).mono ?_; rintro e w' ⟨rfl, rfl⟩; exact ⟨_, rfl, Kd.V_nil _ _ _ _ _, Below.refl _ _⟩
end Go.Proofs.Ytbigcpjlahkggaa.Q
end
