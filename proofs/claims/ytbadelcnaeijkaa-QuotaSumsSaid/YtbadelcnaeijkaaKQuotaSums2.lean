import Derived.Test.YtbadelcnaeijkaaKQuotaSums1
import Derived.Shelf.Bits.Mul64
import Derived.Sort.WalkA
import Derived.Shelf.Small.Bits
import Derived.Test.YtbadelcnaeijkaaProg
import Derived.Lib.ItoaNum
set_option linter.unusedVariables false
set_option linter.unusedSimpArgs false
section
namespace Go.Proofs.Ytbadelcnaeijkaa.Q
open Go.RowKit Go.Proofs.YtbadelcnaeijkaaW.PrintWords Go.Proofs.YtbadelcnaeijkaaW.PrintLast Go.Proofs.YtbadelcnaeijkaaW.PrintMore
attribute [local go_sem] max2_int min2_int max_two min_two max_three min_three max_four min_four
attribute [local go_sem ↓] isSome_setCell
attribute [local go_sem] string_gtr
set_option linter.unusedVariables false
set_option linter.unusedSimpArgs false
theorem sym_walk (gb : Nat) (cv : Int → Int → Int) (N : Int) (T : Int → Int → Prop) (hT : ∀ x y z, T x y → T y z → T x z) (blk off cap : Nat) : ∀ n, SymAll gb cv N T blk off cap n := by
  intro n
  induction n with
  | zero => intro a m b d w h0 _ h1 h2; omega
  | succ n ih =>
    intro a m b d w hn hH ham hmb hb hsz hR hC hP sz hsz2
    by_cases hc1 : m = a + 1
    · subst hsz2; exact sym_one gb cv N T hT blk off cap a m b d w hH hc1 hmb hb hsz hR hC hP
    by_cases hc2 : b = m + 1
    · subst hsz2; exact sym_two gb cv N T hT blk off cap a m b d w hH (by omega) hc2 hb hsz hR hC hP
    by_cases c0 : (a + b) / 2 < m
    · exact sym_half1 gb cv N T hT blk off cap n ih a m b hc1 hc2 c0 d w hn hH ham hmb hb hsz hR hC hP sz hsz2
    · exact sym_half2 gb cv N T hT blk off cap n ih a m b hc1 hc2 c0 d w hn hH ham hmb hb hsz hR hC hP sz hsz2
end Go.Proofs.Ytbadelcnaeijkaa.Q
end
section
namespace Go.Proofs.Ytbadelcnaeijkaa.Q
open Go.RowKit Go.Proofs.YtbadelcnaeijkaaW.PrintWords Go.Proofs.YtbadelcnaeijkaaW.PrintLast Go.Proofs.YtbadelcnaeijkaaW.PrintMore
attribute [local go_sem] max2_int min2_int max_two min_two max_three min_three max_four min_four
attribute [local go_sem ↓] isSome_setCell
attribute [local go_sem] string_gtr
set_option linter.unusedVariables false
set_option linter.unusedSimpArgs false
set_option maxHeartbeats 8000000 in
set_option maxRecDepth 100000 in
theorem sortStable_walk (gb : Nat) (K : Int → Int) (blk off cap n : Nat) (d : Array Int) (w : World) (hH : Sort.Holds (Value.int .i64) w blk off d) (hz : d.size = n) (hn : n ≤ 40)
    (hI : ∀ p, p < n → d[p]! = (p : Int)) (hC : CmpOk gb (cvK K) n w blk) :
    Calls Try.prog 34 #[.slice (some ⟨blk, off, none⟩) n cap, .func (.func 35) #[] #[.pointer (some ⟨gb, 0, none⟩)]] w (SymPost (TK K) blk off 0 n d w) := by
  have H := Aside0.mk (stable_walk (fun gb cv N T hT blk off cap n => sym_walk gb cv N T hT blk off cap n) gb K blk off cap n d w hH hz hn hI hC)
  clear hH hz hI hC
  go_enter Try.func34, Try.ntmps34
  go_wp2_with (go_at_call 45; refine H.out.mono ?_; rintro e w5 ⟨rfl, hf⟩; have HF := Aside0.mk hf; clear hf)
  all_goals go_end0
  all_goals exact ⟨rfl, HF.out⟩
set_option maxHeartbeats 8000000 in
set_option maxRecDepth 100000 in
theorem isNaN_walk (x : Int) (w : World) : Calls Try.prog 46 #[.int .u64 x] w fun e w' => e = .returned (.bool false) ∧ w' = w := by
  go_enter Try.func46, Try.ntmps46
  go_wp2
  go_ret
  exact ⟨by simp, rfl⟩
def cmpU (x y : Int) : Int := if x < y then -1 else if y < x then 1 else 0
set_option maxHeartbeats 8000000 in
set_option maxRecDepth 100000 in
theorem compare_walk (x y : Int) (w : World) : Calls Try.prog 36 #[.int .u64 x, .int .u64 y] w fun e w' => e = .returned (.int .i64 (cmpU x y)) ∧ w' = w := by
  by_cases h1 : x < y
  · have hn : cmpU x y = -1 := if_pos h1
    have b1 : decide (x < y) = true := decide_eq_true h1
    rw [hn]
    clear hn h1
    go_enter Try.func36, Try.ntmps36
    go_wp2_with (go_at_call 46; refine (isNaN_walk _ _).mono ?_; rintro e w5 ⟨rfl, hw5⟩; subst w5)
    go_ret
    exact ⟨rfl, rfl⟩
  · have b1 : decide (x < y) = false := decide_eq_false h1
    by_cases h2 : y < x
    · have hn : cmpU x y = 1 := by unfold cmpU; rw [if_neg h1, if_pos h2]
      have b2 : decide (y < x) = true := decide_eq_true h2
      rw [hn]
      clear hn h1 h2
      go_enter Try.func36, Try.ntmps36
      go_wp2_with (go_at_call 46; refine (isNaN_walk _ _).mono ?_; rintro e w5 ⟨rfl, hw5⟩; subst w5)
      go_ret
      exact ⟨rfl, rfl⟩
    · have hn : cmpU x y = 0 := by unfold cmpU; rw [if_neg h1, if_neg h2]
      have b2 : decide (y < x) = false := decide_eq_false h2
      rw [hn]
      clear hn h1 h2
      go_enter Try.func36, Try.ntmps36
      go_wp2_with (go_at_call 46; refine (isNaN_walk _ _).mono ?_; rintro e w5 ⟨rfl, hw5⟩; subst w5)
      go_ret
      exact ⟨rfl, rfl⟩
theorem side_cell {w W : World} {blk : Nat} (h : Side w W blk) (a : Addr) (ha : a.block ≠ blk) : W.cell? a = w.cell? a := by
  unfold World.cell?
  rw [h a.block ha]
set_option maxHeartbeats 8000000 in
set_option maxRecDepth 100000 in
theorem clos_walk (gb rb cp blk n : Nat) (R : Nat → Int) (w : World) (hg : gb ≠ blk) (hr : rb ≠ blk) (hn : n < 1000000000) (hbox : w.cell? ⟨gb, 0, none⟩ = some (.slice (some ⟨rb, 0, none⟩) n cp)) (hrow : ∀ t, t < n → w.cell? ⟨rb, t, none⟩ = some (.int .u64 (R t))) :
    CmpOk gb (cvK (fun i => R i.toNat)) n w blk := by
  intro x y hx hy W hS
  obtain ⟨x, rfl⟩ : ∃ k : Nat, x = k := ⟨x.toNat, by omega⟩
  obtain ⟨y, rfl⟩ : ∃ k : Nat, y = k := ⟨y.toNat, by omega⟩
  have e : cvK (fun i => R i.toNat) x y = cmpU (R y) (R x) := rfl
  rw [e]
  have hb2 : W.cell? ⟨gb, 0, none⟩ = some (.slice (some ⟨rb, 0, none⟩) n cp) := (side_cell hS _ hg).trans hbox
  have hr2 : ∀ t, t < n → W.cell? ⟨rb, t, none⟩ = some (.int .u64 (R t)) := fun t ht => (side_cell hS _ hr).trans (hrow t ht)
  have hx2 : x < n := by omega
  have hy2 : y < n := by omega
  clear hbox hrow hS hx hy e
  have HQ : ∀ W : World, Aside0 (Calls Try.prog 36 #[.int .u64 (R y), .int .u64 (R x)] W fun e w' => e = .returned (.int .i64 (cmpU (R y) (R x))) ∧ ∃ m, w' = W.drewN m) := fun W => ⟨(compare_walk _ _ W).mono fun e w' h => ⟨h.1, 0, h.2⟩⟩
  go_enter Try.func35, Try.ntmps35
  go_wp2
  go_quiet (first | (go_at_call 36; refine Calls.quiet_of (HQ _).out))
  all_goals go_wp2
  all_goals go_ret
  all_goals exact ⟨rfl, _, rfl⟩
end Go.Proofs.Ytbadelcnaeijkaa.Q
end
section
namespace Go.Proofs.Ytbadelcnaeijkaa.Q
open Go.RowKit Go.Proofs.YtbadelcnaeijkaaW.PrintWords Go.Proofs.YtbadelcnaeijkaaW.PrintLast Go.Proofs.YtbadelcnaeijkaaW.PrintMore
attribute [local go_sem] max2_int min2_int max_two min_two max_three min_three max_four min_four
attribute [local go_sem ↓] isSome_setCell
attribute [local go_sem] string_gtr
set_option linter.unusedVariables false
set_option linter.unusedSimpArgs false
def num (x : Int) : Bool := decide (0 ≤ x ∧ x ≤ 1125899906842624)
theorem number_fn (x : Int) (w : World) : Calls Try.prog 27 #[.int .i64 x] w fun e w' => e = .returned (.bool (num x)) ∧ w' = w := by
 by_cases h1 : 0 ≤ x
 ·
  by_cases h2 : x ≤ 1125899906842624
  ·
   have hn : num x = true := de_ ⟨h1, h2⟩; have b1 : decide (0 ≤ x) = true := de_ h1; have b2 : decide (x ≤ 1125899906842624) = true := de_ h2; rw [hn]; clear hn h1 h2; go_enter Try.func27, Try.ntmps27; go_wp2; go_ret; exact ⟨rfl, rfl⟩
  ·
   have hn : num x = false := df_ (fun h => h2 h.2); have b1 : decide (0 ≤ x) = true := de_ h1; have b2 : decide (x ≤ 1125899906842624) = false := df_ h2; rw [hn]; clear hn h1 h2; go_enter Try.func27, Try.ntmps27; go_wp2; go_ret; exact ⟨rfl, rfl⟩
 ·
  have hn : num x = false := df_ (fun h => h1 h.1); have b1 : decide (0 ≤ x) = false := df_ h1; rw [hn]; clear hn h1; go_enter Try.func27, Try.ntmps27; go_wp2; go_ret; exact ⟨rfl, rfl⟩
def used (o : ByteArray) (l : List S66) : Int := (l.map fun x => if x.f3 = o ∧ num x.f5 = true then x.f5 else 0).sum
def named (o : ByteArray) (l : List S66) : Bool := l.any fun x => decide (x.f3 = o) && num x.f5
theorem used_step (o : ByteArray) (l : List S66) (i : Nat) (h : i < l.length) : used o (l.take (i + 1)) = used o (l.take i) + (if l[i].f3 = o ∧ num l[i].f5 = true then l[i].f5 else 0) := by
 rw [List.take_add_one, List.getElem?_eq_getElem h, used, List.map_append, List.sum_append]
 simp [used, -List.map_take]
theorem named_step (o : ByteArray) (l : List S66) (i : Nat) (h : i < l.length) : named o (l.take (i + 1)) = (named o (l.take i) || (decide (l[i].f3 = o) && num l[i].f5)) := by
 rw [List.take_add_one, List.getElem?_eq_getElem h, named, List.any_append]
 simp [named]
theorem num_le {x : Int} (h : num x = true) : 0 ≤ x ∧ x ≤ 1125899906842624 := ot_ h
theorem used_bound (o : ByteArray) : ∀ l : List S66, 0 ≤ used o l ∧ used o l ≤ l.length * 1125899906842624
 | [] => ⟨Int.le_refl _, Int.le_refl _⟩
 | x :: l => by
  have ih := used_bound o l; have e : used o (x :: l) = (if x.f3 = o ∧ num x.f5 = true then x.f5 else 0) + used o l := by simp [used]
  rw [e, List.length_cons]
  by_cases h : x.f3 = o ∧ num x.f5 = true
  ·
   rw [if_pos h]; have := num_le h.2
   omega
  ·
   rw [if_neg h]
   omega
def MapIs (w : World) (b n : Nat) (g : ByteArray → Int) (hs : ByteArray → Bool) : Prop :=
 ∃ D : DataW Unit, w.ownsMap Try.prog 9 (plainElem Try.prog 3) b n D ∧ Maps.IsMap D ∧ (∀ s : ByteArray, D.atKey (.string s.data.toList) (.lit (.int .i64 0)) = .lit (.int .i64 (g s))) ∧ ∀ s : ByteArray, Maps.has D (.string s.data.toList) = hs s
theorem key9 {s : ByteArray} (hs : s.size ≤ 140737488351232) : keyOf Try.prog 9 (.string s) = some (.string s.data.toList) := WideMaps.keyOf_string_mk Try.underlying9 (by unfold maxLen; omega)
theorem keyed9 : Maps.Keyed Try.prog 9 := Maps.string_keyed Try.underlying9
theorem zero3 (w : World) : (zeroValue 3).run Try.prog w = .ok (.int .i64 0) w := by kernel_rfl
theorem MapIs.below {w w' : World} {b n : Nat} {g : ByteArray → Int} {hs : ByteArray → Bool} (h : MapIs w b n g hs) (hb : Below (b + 1) w w') : MapIs w' b n g hs := by
 obtain ⟨D, ⟨es, clock, h1, h2⟩, h3⟩ := h; exact ⟨D, ⟨es, clock, (hb.block b (Nat.lt_succ_self b)).trans h1, h2⟩, h3⟩
theorem MapIs.lt {w : World} {b n : Nat} {g : ByteArray → Int} {hs : ByteArray → Bool} (h : MapIs w b n g hs) : b < w.heap.size := by
 obtain ⟨D, h1, _⟩ := h; exact h1.lt
theorem MapIs.made (w : World) : MapIs (w.alloc (.map #[] 0)) w.heap.size 0 (fun _ => 0) (fun _ => false) :=
 ⟨.map [], World.ownsMap_made _ _ _ _, ⟨_, rfl⟩, fun _ => rfl, fun _ => rfl⟩
theorem MapIs.look {w : World} {b n : Nat} {g : ByteArray → Int} {hs : ByteArray → Bool} (h : MapIs w b n g hs) (s : ByteArray) (hs : s.size ≤ 140737488351232) : (Instr.lookup 59 (.map (some b)) (.string s) false).run Try.prog w = .ok (.int .i64 (g s)) w := by
 obtain ⟨D, h1, _, h3, _⟩ := h; obtain ⟨c, hrun, hat, _⟩ := h1.lookup_int keyed9 Try.underlying59 Try.underlying3 (zero3 _) (key9 hs); rw [h3 s] at hat
 have e : g s = c := by
  exact (Lit.int.inj (DataW.lit.inj hat)).2
 rw [e]; exact hrun
theorem key_ne {a b : ByteArray} (h : a ≠ b) : (Lit.string a.data.toList) ≠ .string b.data.toList := by
 intro e; injection e with e
 exact h (ByteArray.ext (Array.toList_inj.1 e))
theorem MapIs.put {w1 : World} {b n : Nat} {g : ByteArray → Int} {hs : ByteArray → Bool} {D : DataW Unit} (hm : Maps.IsMap D) (h3 : ∀ s : ByteArray, D.atKey (.string s.data.toList) (.lit (.int .i64 0)) = .lit (.int .i64 (g s))) (h4 : ∀ s : ByteArray, Maps.has D (.string s.data.toList) = hs s) (s : ByteArray) (v : Int)
  (h : w1.ownsMap Try.prog 9 (plainElem Try.prog 3) b n (D.put (.string s.data.toList) (.lit (.int .i64 v)))) : MapIs w1 b n (fun x => if x = s then v else g x) (fun x => decide (x = s) || hs x) := by
 refine ⟨_, h, hm.put _ _, fun x => ?_, fun x => ?_⟩
 ·
  by_cases e : x = s
  ·
   subst e; rw [Maps.atKey_put_same hm (by simp [WideAt.IsKeyLit])]; simp
  ·
   rw [Maps.atKey_put_other (key_ne e), h3]; simp [e]
 ·
  by_cases e : x = s
  ·
   subst e; rw [Maps.has_put_same hm (by simp [WideAt.IsKeyLit])]
   simp
  ·
   rw [Maps.has_put_other (key_ne e), h4]
   simp [e]
theorem wpMap_put (w : World) {ops : Array Oper} {rest : List Oper} {o : Oper} {a : Act} {Q : Exit → Act → World → Prop}
  (hg : o.guard = none) (m x v : Operand) (hop : o.op = Op.mapUpdate 59 m x v) (b n : Nat) (g : ByteArray → Int) (hs : ByteArray → Bool)
  (hm : a.eval m = .map (some b)) (hown : MapIs w b n g hs) (hn : n < maxLen) (s : ByteArray) (hsz : s.size ≤ 140737488351232) (c : Int) (hx : a.eval x = .string s) (hv : a.eval v = .int .i64 c) (hw : (Lit.int .i64 c).wf = true)
  (hK : ∀ w', MapIs w' b (n + 1) (fun x => if x = s then c else g x) (fun x => decide (x = s) || hs x) → w.grownBy w' (some b) → wpList Try.prog ops Q rest (a.put o.dst undef) w') :
  wpList Try.prog ops Q (o :: rest) a w := by
 obtain ⟨D, h1, h2, h3, h4⟩ := hown; exact wpList_mapUpdate_own w hg m x v 59 hop 9 3 keyed9 Try.underlying59 _ b n D hm h1 hn _ _ _ hx hv (key9 hsz) _ [] (plainElem_int Try.underlying3 hw) (fun w' r1 r2 => hK w' (MapIs.put h2 h3 h4 s c r1) r2)
theorem MapIs.update {w : World} {b n : Nat} {g : ByteArray → Int} {hs : ByteArray → Bool} (hown : MapIs w b n g hs) (hn : n < maxLen) (s : ByteArray) (hsz : s.size ≤ 140737488351232) (c : Int) (hw : (Lit.int .i64 c).wf = true) :
  ∃ w', (Instr.mapUpdate 59 (.map (some b)) (.string s) (.int .i64 c)).run Try.prog w = .ok () w' ∧ MapIs w' b (n + 1) (fun x => if x = s then c else g x) (fun x => decide (x = s) || hs x) ∧ w.grownBy w' (some b) := by
 obtain ⟨D, h1, h2, h3, h4⟩ := hown; obtain ⟨w', r1, r2, r3⟩ := h1.update keyed9 Try.underlying59 hn (key9 hsz) (plainElem_int Try.underlying3 hw); exact ⟨w', r1, MapIs.put h2 h3 h4 s c r2, r3⟩
theorem wp_look {w : World} {ops : Array Oper} {rest : List Oper} {o : Oper} {a : Act} {Q : Exit → Act → World → Prop}
  (hg : o.guard = none) (m x : Operand) (hop : o.op = Op.lookup 59 m x false) (b n : Nat) (g : ByteArray → Int) (hs : ByteArray → Bool)
  (hm : a.eval m = .map (some b)) (hown : MapIs w b n g hs) (s : ByteArray) (hsz : s.size ≤ 140737488351232) (hx : a.eval x = .string s)
  (hK : wpList Try.prog ops Q rest (a.put o.dst (.int .i64 (g s))) w) : wpList Try.prog ops Q (o :: rest) a w := by
 refine Kd.event_run hg ?_ hK; have hr := hown.look s hsz
 simp [execOp, hop, hm, hx, hr, Result.andThen]
theorem mapIs_ext {w : World} {b n : Nat} {g g' : ByteArray → Int} {hs hs' : ByteArray → Bool} (h : MapIs w b n g hs) (e1 : ∀ s, g s = g' s) (e2 : ∀ s, hs s = hs' s) : MapIs w b n g' hs' := by
 obtain rfl : g = g' := funext e1; obtain rfl : hs = hs' := funext e2; exact h
theorem MapIs.mono {w : World} {b n n' : Nat} {g : ByteArray → Int} {hs : ByteArray → Bool} (h : MapIs w b n g hs) (hn : n ≤ n') : MapIs w b n' g hs := by
 obtain ⟨D, h1, h2⟩ := h; exact ⟨D, h1.mono hn, h2⟩
theorem below_setG {B : Nat} {w W : World} {g j : Nat} {v : Value} (h : Below B w W) (hg : B ≤ g) : Below B w (W.setCell ⟨g, j, none⟩ v) := h.setCell hg _
theorem below_grow {w W W' : World} {b : Nat} (h : Below w.heap.size w W) (hg : W.grownBy W' (some b)) (hb : w.heap.size ≤ b) : Below w.heap.size w W' := h.grown hg h.size (fun k hk => by cases hk; exact hb)
theorem wrap_lit (x : Int) (h0 : 0 ≤ x) (h1 : x ≤ 4611686018427387904) : wrap64 x = x ∧ (Lit.int .i64 x).wf = true := by
 have e : wrap64 x = x := by unfold wrap64; omega
 exact ⟨e, e ▸ wrap64_wf x⟩
set_option maxRecDepth 100000 in
set_option maxHeartbeats 8000000 in
theorem totals_fn (A0 : Option Addr) (c0 : Nat) (l0 : List S66) (w : World) (hr0 : Kd.C k66 w A0 l0.length l0) (hl : l0.length ≤ 1000) (hz : ∀ x ∈ l0, x.f3.size ≤ 140737488351232) :
  Calls Try.prog 29 #[.slice A0 l0.length c0] w fun e w' => ∃ b, e = .returned (.map (some b)) ∧ w.heap.size ≤ b ∧ MapIs w' b l0.length (fun s => used s l0) (fun s => named s l0) ∧ Below w.heap.size w w' := by
 have hmm := @run_makeMap Try.prog; have hu66 := Try.underlying66; have HR0 := am_ hr0; have HL := am_ hl; have HZ := am_ hz; clear hr0 hl hz; go_enter Try.func29, Try.ntmps29; go_wp2
 go_loopg [9] l0.length (fun kq v9 w' => ∃ i : Nat, v9 = .int .i64 (i : Int) ∧ Aside0 (i + kq = l0.length) ∧ Aside0 (MapIs w' w.heap.size i (fun s => used s (l0.take i)) (fun s => named s (l0.take i))) ∧ Aside0 (Below w.heap.size w w'))
 case atStart => exact ⟨0, rfl, ⟨by omega⟩, ⟨MapIs.made w⟩, ⟨(Below.refl _ _).alloc (Nat.le_refl _) _⟩⟩
 case round =>
  obtain ⟨i, rfl, HN, HM, HB⟩ := hrel; have hl2 := HL.out
  by_cases c2 : i < l0.length
  ·
   have c2b0 : decide ((i : Int) < (l0.length : Int)) = true := de_ (by omega); have c2b1 : decide (i < l0.length) = true := de_ c2; have p1 : 0 ≤ (i : Int) := by omega
   have q1 : (i : Int) < (l0.length : Int) := by omega
   obtain ⟨ad1, A10, c10, e1, hx0, hx1, hx2, hx3, hx4, hx5, hx6, hx7, hx8, hx9, hx10, hxl, hxi⟩ := at_T66 HR0.out (i : Int) p1 q1; cases e1; replace hx0 := (HB.out.cell (bk_ w _ hx0)).trans hx0; replace hx1 := (HB.out.cell (bk_ w _ hx1)).trans hx1; replace hx2 := (HB.out.cell (bk_ w _ hx2)).trans hx2; replace hx3 := (HB.out.cell (bk_ w _ hx3)).trans hx3; replace hx4 := (HB.out.cell (bk_ w _ hx4)).trans hx4; replace hx5 := (HB.out.cell (bk_ w _ hx5)).trans hx5; replace hx6 := (HB.out.cell (bk_ w _ hx6)).trans hx6; replace hx7 := (HB.out.cell (bk_ w _ hx7)).trans hx7; replace hx8 := (HB.out.cell (bk_ w _ hx8)).trans hx8; replace hx9 := (HB.out.cell (bk_ w _ hx9)).trans hx9; replace hx10 := (HB.out.cell (bk_ w _ hx10)).trans hx10; rw [Int.toNat_natCast] at hx0 hx1 hx2 hx3 hx4 hx5 hx6 hx7 hx8 hx9 hx10
   have hrd : rd_T66 l0 (i : Int) = l0[i]'c2 := by
    unfold rd_T66
    rw [Int.toNat_natCast, List.getD_eq_getElem?_getD, List.getElem?_eq_getElem c2]; rfl
   rw [hrd] at hx0 hx1 hx2 hx3 hx4 hx5 hx6 hx7 hx8 hx9 hx10; have HU := am_ (fun s => used_step s l0 i c2); have HNM := am_ (fun s => named_step s l0 i c2); have HZI := am_ (HZ.out _ (List.getElem_mem c2)); have HUB := am_ (fun s => used_bound s (l0.take i)); have HTL := am_ (show (l0.take i).length = i by rw [List.length_take]; omega); clear hrd hxl hxi
   have hw : IntKind.i64.wrap ((i : Int) + 1) = ((i + 1 : Nat) : Int) := by
    rw [i64_w]
    unfold wrap64
    omega
   generalize l0[i]'c2 = x at *; replace p1 := eq_true p1; replace q1 := eq_true q1; clear hl2; have HF := number_fn x.f5; have HLT := am_ (show w.heap.size + 1 ≤ wr.heap.size from HM.out.lt); have HLW := am_ (Nat.le_of_lt HM.out.lt); have HNI := am_ (show i < maxLen by have := HL.out; unfold maxLen; omega)
   by_cases c3 : num x.f5 = true
   ·
    have HWB := am_ (wrap_lit (used x.f3 (l0.take i) + x.f5) (by have := HUB.out x.f3; have := num_le c3; omega) (by have := HUB.out x.f3; have := num_le c3; have := HL.out; rw [HTL.out] at *; omega)); have HW := am_ HWB.out.2; have hws : wrap64 (used x.f3 (l0.take i) + x.f5) = used x.f3 (l0.take i) + x.f5 := HWB.out.1; have hws2 : IntKind.i64.wrap (used x.f3 (l0.take i) + x.f5) = used x.f3 (l0.take i) + x.f5 := by rw [i64_w, hws]
    rw [c3] at HF; have H3 := am_ c3; clear c3
    go_wp2_with (first | ((with_reducible refine gate_dst (N := 5) rfl ?_); (try (refine gate_guard (by rfl) ?_; dsimp only)); refine box_event ?hg (N := 5) ?hd (cs := #[.int .i64 0, .int .i64 0, .string ⟨#[]⟩, .string ⟨#[]⟩, .string ⟨#[]⟩, .int .i64 0, .int .u32 0, .int .u64 0, .int .i64 0, .int .i64 0, .slice none 0 0]) (t := 66) ?hr ?_; (case hd => rfl); (case hg => rfl); (case hr => first | (go_simp; done) | (go_simp; rfl)); intro gb hg w8 hbox hb; have HB8 := am_ hb; have BK := am_ hbox; have GE := am_ (show w.heap.size + 1 ≤ gb by rw [hg]; exact HLT.out); have GW := am_ (show w.heap.size ≤ gb by rw [hg]; exact Nat.le_of_lt HLT.out); clear hb hbox hg; have hcz_0 : w8.cell? ⟨gb, 0, none⟩ = some (.int .i64 0) := (bc_ BK.out 0).trans rfl; have hfz_0 := bf_ BK.out 0; have hcz_1 : w8.cell? ⟨gb, 1, none⟩ = some (.int .i64 0) := (bc_ BK.out 1).trans rfl; have hfz_1 := bf_ BK.out 1; have hcz_2 : w8.cell? ⟨gb, 2, none⟩ = some (.string ⟨#[]⟩) := (bc_ BK.out 2).trans rfl; have hfz_2 := bf_ BK.out 2; have hcz_3 : w8.cell? ⟨gb, 3, none⟩ = some (.string ⟨#[]⟩) := (bc_ BK.out 3).trans rfl; have hfz_3 := bf_ BK.out 3; have hcz_4 : w8.cell? ⟨gb, 4, none⟩ = some (.string ⟨#[]⟩) := (bc_ BK.out 4).trans rfl; have hfz_4 := bf_ BK.out 4; have hcz_5 : w8.cell? ⟨gb, 5, none⟩ = some (.int .i64 0) := (bc_ BK.out 5).trans rfl; have hfz_5 := bf_ BK.out 5; have hcz_6 : w8.cell? ⟨gb, 6, none⟩ = some (.int .u32 0) := (bc_ BK.out 6).trans rfl; have hfz_6 := bf_ BK.out 6; have hcz_7 : w8.cell? ⟨gb, 7, none⟩ = some (.int .u64 0) := (bc_ BK.out 7).trans rfl; have hfz_7 := bf_ BK.out 7; have hcz_8 : w8.cell? ⟨gb, 8, none⟩ = some (.int .i64 0) := (bc_ BK.out 8).trans rfl; have hfz_8 := bf_ BK.out 8; have hcz_9 : w8.cell? ⟨gb, 9, none⟩ = some (.int .i64 0) := (bc_ BK.out 9).trans rfl; have hfz_9 := bf_ BK.out 9; have hcz_10 : w8.cell? ⟨gb, 10, none⟩ = some (.slice none 0 0) := (bc_ BK.out 10).trans rfl; have hfz_10 := bf_ BK.out 10) | (go_at_call 27; refine (HF _).mono ?_; rintro e w9 ⟨rfl, rfl⟩) | ((with_reducible refine gate_dst (N := 19) rfl ?_); refine wp_look ?hg (Operand.tmp 16) (Operand.tmp 18) ?hop w.heap.size i (fun s => used s (l0.take i)) (fun s => named s (l0.take i)) ?hm ?own x.f3 HZI.out ?hx ?_; (case hop => rfl); (case hm => first | (go_simp; done) | (go_simp; rfl)); (case own => exact HM.out.below (by repeat (with_reducible first | exact HB8.out.mono HLT.out | refine below_setG ?_ GE.out))); (case hx => first | (go_simp; done) | (go_simp; rfl)); (case hg => rfl)) | (at_mapUpdate; refine wpMap_put _ ?hg (Operand.tmp 16) (Operand.tmp 18) (Operand.tmp 22) ?hop w.heap.size i (fun s => used s (l0.take i)) (fun s => named s (l0.take i)) ?hm ?own HNI.out x.f3 HZI.out (used x.f3 (l0.take i) + x.f5) ?hx ?hv HW.out ?_; (case hg => rfl); (case hop => rfl); (case hm => first | (go_simp; done) | (go_simp; rfl)); (case own => exact HM.out.below (by repeat (with_reducible first | exact HB8.out.mono HLT.out | refine below_setG ?_ GE.out))); (case hx => first | (go_simp; done) | (go_simp; rfl)); (case hv => first | (go_simp; done) | (go_simp; rfl)); intro w9 hm9 hg9; have HM9 := am_ hm9; have HG9 := am_ hg9; clear hm9 hg9))
    go_roundg (l0.length - (i + 1))
    case measure => have := HN.out; omega
    case rel =>
     refine ⟨i + 1, by simp, ⟨by have := HN.out; omega⟩, ⟨?_⟩, ⟨?_⟩⟩
     ·
      refine mapIs_ext (HM9.out.below ?_) (fun s => ?_) (fun s => ?_)
      ·
       exact Below.refl _ _
      ·
       rw [HU.out s]
       by_cases e : s = x.f3
       ·
        subst e; rw [if_pos rfl, if_pos ⟨rfl, H3.out⟩]
       ·
        rw [if_neg e, if_neg (fun h => e h.1.symm), Int.add_zero]
      ·
       rw [HNM.out s, H3.out, Bool.and_true, Bool.or_comm]
       congr 1
       exact decide_eq_decide.2 ⟨Eq.symm, Eq.symm⟩
     ·
      refine below_grow (b := w.heap.size) ?_ HG9.out (Nat.le_refl _); refine HB.out.trans ?_
      repeat (with_reducible first | exact HB8.out.mono HLW.out | refine below_setG ?_ GW.out)
   ·
    have H3 := am_ c3; replace c3 := Bool.eq_false_iff.mpr c3; rw [c3] at HF; clear c3
    go_wp2_with (first | ((with_reducible refine gate_dst (N := 5) rfl ?_); (try (refine gate_guard (by rfl) ?_; dsimp only)); refine box_event ?hg (N := 5) ?hd (cs := #[.int .i64 0, .int .i64 0, .string ⟨#[]⟩, .string ⟨#[]⟩, .string ⟨#[]⟩, .int .i64 0, .int .u32 0, .int .u64 0, .int .i64 0, .int .i64 0, .slice none 0 0]) (t := 66) ?hr ?_; (case hd => rfl); (case hg => rfl); (case hr => first | (go_simp; done) | (go_simp; rfl)); intro gb hg w8 hbox hb; have HB8 := am_ hb; have BK := am_ hbox; have GE := am_ (show w.heap.size + 1 ≤ gb by rw [hg]; exact HLT.out); have GW := am_ (show w.heap.size ≤ gb by rw [hg]; exact Nat.le_of_lt HLT.out); clear hb hbox hg; have hcz_0 : w8.cell? ⟨gb, 0, none⟩ = some (.int .i64 0) := (bc_ BK.out 0).trans rfl; have hfz_0 := bf_ BK.out 0; have hcz_1 : w8.cell? ⟨gb, 1, none⟩ = some (.int .i64 0) := (bc_ BK.out 1).trans rfl; have hfz_1 := bf_ BK.out 1; have hcz_2 : w8.cell? ⟨gb, 2, none⟩ = some (.string ⟨#[]⟩) := (bc_ BK.out 2).trans rfl; have hfz_2 := bf_ BK.out 2; have hcz_3 : w8.cell? ⟨gb, 3, none⟩ = some (.string ⟨#[]⟩) := (bc_ BK.out 3).trans rfl; have hfz_3 := bf_ BK.out 3; have hcz_4 : w8.cell? ⟨gb, 4, none⟩ = some (.string ⟨#[]⟩) := (bc_ BK.out 4).trans rfl; have hfz_4 := bf_ BK.out 4; have hcz_5 : w8.cell? ⟨gb, 5, none⟩ = some (.int .i64 0) := (bc_ BK.out 5).trans rfl; have hfz_5 := bf_ BK.out 5; have hcz_6 : w8.cell? ⟨gb, 6, none⟩ = some (.int .u32 0) := (bc_ BK.out 6).trans rfl; have hfz_6 := bf_ BK.out 6; have hcz_7 : w8.cell? ⟨gb, 7, none⟩ = some (.int .u64 0) := (bc_ BK.out 7).trans rfl; have hfz_7 := bf_ BK.out 7; have hcz_8 : w8.cell? ⟨gb, 8, none⟩ = some (.int .i64 0) := (bc_ BK.out 8).trans rfl; have hfz_8 := bf_ BK.out 8; have hcz_9 : w8.cell? ⟨gb, 9, none⟩ = some (.int .i64 0) := (bc_ BK.out 9).trans rfl; have hfz_9 := bf_ BK.out 9; have hcz_10 : w8.cell? ⟨gb, 10, none⟩ = some (.slice none 0 0) := (bc_ BK.out 10).trans rfl; have hfz_10 := bf_ BK.out 10) | (go_at_call 27; refine (HF _).mono ?_; rintro e w9 ⟨rfl, rfl⟩))
    go_roundg (l0.length - (i + 1))
    case measure => have := HN.out; omega
    case rel =>
     refine ⟨i + 1, by simp, ⟨by have := HN.out; omega⟩, ⟨?_⟩, ⟨?_⟩⟩
     ·
      refine mapIs_ext ((HM.out.mono (Nat.le_succ i)).below ?_) (fun s => ?_) (fun s => ?_)
      ·
       repeat (with_reducible first | exact HB8.out.mono HLT.out | refine below_setG ?_ GE.out)
      ·
       rw [HU.out s, if_neg (fun h => H3.out h.2), Int.add_zero]
      ·
       rw [HNM.out s, Bool.eq_false_iff.mpr H3.out, Bool.and_false, Bool.or_false]
     ·
      refine HB.out.trans ?_
      repeat (with_reducible first | exact HB8.out.mono HLW.out | refine below_setG ?_ GW.out)
  ·
   have c2b0 : decide ((i : Int) < (l0.length : Int)) = false := df_ (by omega); have c2b1 : decide (i < l0.length) = false := df_ c2; have hi : i = l0.length := by have := HN.out; omega
   have HM2 := HM.out; rw [List.take_of_length_le (by omega), hi] at HM2; have HM3 := am_ HM2; clear HM2 c2 hi hl2; go_wp2; go_ret; exact ⟨_, rfl, Nat.le_refl _, HM3.out, HB.out⟩
set_option maxHeartbeats 4000000 in
theorem used_walk (A0 : Option Addr) (c0 : Nat) (l0 : List S66) (o : ByteArray) (w : World) (hr0 : Kd.C k66 w A0 l0.length l0) (hl : l0.length ≤ 1000) (hz : ∀ x ∈ l0, x.f3.size ≤ 140737488351232) (ho : o.size ≤ 140737488351232) :
  Calls Try.prog 19 #[.slice A0 l0.length c0, .string o] w fun e w' => e = .returned (.int .i64 (used o l0)) ∧ Below w.heap.size w w' := by
 have HT := am_ (totals_fn A0 c0 l0 w hr0 hl hz); have HO := am_ ho; clear hr0 hl hz ho; go_enter Try.func19, Try.ntmps19
 go_wp2_with (go_at_call 29; refine HT.out.mono ?_; rintro e w6 ⟨b, rfl, hb1, hm, hb6⟩; have HM := am_ hm; have HB := am_ hb6; have hrun := hm.look o HO.out; clear hm hb6 hb1)
 go_ret; exact ⟨rfl, HB.out⟩
def usedOk (l : List S66) : Prop := l.length ≤ 1000 ∧ ∀ x ∈ l, x.f3.size ≤ 140737488351232
instance (l : List S66) : Decidable (usedOk l) := inferInstanceAs (Decidable (_ ∧ _))
def quota_Used.f (l0 : List S66) (a1 : ByteArray) : Option Int := if usedOk l0 ∧ a1.size ≤ 140737488351232 then some (used a1 l0) else none
theorem quota_Used.calls (A0 : Option Addr) (c0 : Nat) (l0 : List S66) (a1 : ByteArray) (r : Int) (w : World) (hr0 : Kd.C k66 w A0 l0.length l0) (_hc0 : l0.length ≤ c0) (h : quota_Used.f l0 a1 = some r) :
  Calls Try.prog 19 #[.slice A0 l0.length c0, .string a1] w fun e w' => e = .returned (.int .i64 r) ∧ Below w.heap.size w w' := by
 unfold quota_Used.f at h
 by_cases hl : usedOk l0 ∧ a1.size ≤ 140737488351232
 ·
  rw [if_pos hl] at h; cases h; exact used_walk A0 c0 l0 a1 w hr0 hl.1.1 hl.1.2 hl.2
 ·
  rw [if_neg hl] at h; cases h
end Go.Proofs.Ytbadelcnaeijkaa.Q
end
section
namespace Go.Proofs.Ytbadelcnaeijkaa.Q
open Go.RowKit Go.Proofs.YtbadelcnaeijkaaW.PrintWords Go.Proofs.YtbadelcnaeijkaaW.PrintLast Go.Proofs.YtbadelcnaeijkaaW.PrintMore
attribute [local go_sem] max2_int min2_int max_two min_two max_three min_three max_four min_four
attribute [local go_sem ↓] isSome_setCell
attribute [local go_sem] string_gtr
set_option linter.unusedVariables false
set_option linter.unusedSimpArgs false
end Go.Proofs.Ytbadelcnaeijkaa.Q
end
section
namespace Go.Proofs.Ytbadelcnaeijkaa.Q
open Go.RowKit Go.Proofs.YtbadelcnaeijkaaW.PrintWords Go.Proofs.YtbadelcnaeijkaaW.PrintLast Go.Proofs.YtbadelcnaeijkaaW.PrintMore
attribute [local go_sem] max2_int min2_int max_two min_two max_three min_three max_four min_four
attribute [local go_sem ↓] isSome_setCell
attribute [local go_sem] string_gtr
set_option linter.unusedVariables false
set_option linter.unusedSimpArgs false
def quota_number.f (a0 : Int) : Option (Bool) := if a0 ≥ 0 then (some (decide (a0 ≤ 1125899906842624))) else (some false)
set_option maxHeartbeats 8000000 in
set_option maxRecDepth 100000 in
theorem quota_number.calls (a0 : Int) (r : Bool) (w : World) (h : quota_number.f a0 = some r) :
  Calls Try.prog 27 #[.int .i64 a0] w fun e w' => e = .returned (.bool r) ∧ Drawn0 w w' := by
 have H : (if a0 ≥ 0 then (some (decide (a0 ≤ 1125899906842624))) else (some false)) = some r := h; clear h
 by_cases c2 : a0 ≥ 0
 ·
  rw [if_pos c2] at H; have c2b0 : decide (0 ≤ a0) = true := de_ c2; clear c2; obtain rfl := si_ H; go_enter Try.func27, Try.ntmps27; go_wp2; go_ret; exact ⟨by first | rfl | (simp; done) | (simp [*]; done), by repeat (first | exact Drawn0.refl _ | apply Drawn0.step)⟩
 ·
  rw [if_neg c2] at H; have c2b0 : decide (0 ≤ a0) = false := df_ c2; clear c2; obtain rfl := si_ H; go_enter Try.func27, Try.ntmps27; go_wp2; go_ret; exact ⟨by first | rfl | (simp; done) | (simp [*]; done), by repeat (first | exact Drawn0.refl _ | apply Drawn0.step)⟩
def quota_sum.l0 : Nat → Int → List Int → Int → Int → Option (Int × Bool)
 | 0, _, _, _, _ => none
 | k + 1, x4, x7, x8, x9 => if x9 < x8 then (if 0 ≤ x9 then (if x9 < (x7.length : Int) then ((quota_number.f (rd x7 x9)).bind fun t152 => (if t152 = true then ((quota_number.f (wrap64 (x4 + (rd x7 x9)))).bind fun t153 => (if t153 = true then (quota_sum.l0 k (wrap64 (x4 + (rd x7 x9))) x7 x8 (wrap64 (x9 + 1))) else (some (0, false)))) else (some (0, false)))) else (none)) else (none)) else (some (x4, true))
def quota_sum.f (k : Nat) (l0 : List Int) : Option (Int × Bool) := quota_sum.l0 k 0 l0 (l0.length : Int) 0
set_option maxHeartbeats 8000000 in
set_option maxRecDepth 100000 in
theorem quota_sum.calls (k : Nat) (A0 : Option Addr) (c0 : Nat) (l0 : List Int) (r1 : Int) (r2 : Bool) (w : World) (hr0 : Kd.C (Kd.int .i64) w A0 l0.length l0) (hc0 : l0.length ≤ c0) (h : quota_sum.f k l0 = some (r1, r2)) :
  Calls Try.prog 31 #[.slice A0 l0.length c0] w fun e w' => e = .returned (.tuple #[.int .i64 r1, .bool r2]) ∧ Drawn0 w w' := by
 have HR0 := am_ hr0; have HC0 := am_ hc0; clear hr0 hc0; have H : (quota_sum.l0 k 0 l0 (l0.length : Int) 0) = some (r1, r2) := h; clear h; have H' := am_ H; clear H; go_enter Try.func31, Try.ntmps31; go_wp2
 go_loopg [4, 9] k (fun kq v4 v9 w' => ∃ (x4_1 : Int) (x9_1 : Int), v4 = .int .i64 x4_1 ∧ v9 = .int .i64 x9_1 ∧ Aside0 (quota_sum.l0 kq x4_1 l0 (l0.length : Int) x9_1 = some (r1, r2)) ∧ Aside0 (kq ≤ k) ∧ Drawn0 w w')
 case atStart => exact ⟨(0), (0), (by first | rfl | (simp; done) | (simp [*]; done)), (by first | rfl | (simp; done) | (simp [*]; done)), H', ⟨Nat.le_refl _⟩, by repeat (first | exact Drawn0.refl _ | apply Drawn0.step)⟩
 case round =>
  clear H'; obtain ⟨x4_1, x9_1, rfl, rfl, HA, HK1, ⟨m1, rfl⟩⟩ := hrel; cases gk with
  | zero => exact absurd HA.out (by simp [quota_sum.l0])
  | succ k1 =>
   have H := HA.out; clear HA; simp only [quota_sum.l0] at H
   by_cases c2 : x9_1 < (l0.length : Int)
   ·
    rw [if_pos c2] at H; have c2b0 : decide (x9_1 < (l0.length : Int)) = true := de_ c2; clear c2
    by_cases c3 : 0 ≤ x9_1
    ·
     rw [if_pos c3] at H; have c3b0 : decide (0 ≤ x9_1) = true := de_ c3; clear c3
     by_cases c4 : x9_1 < (l0.length : Int)
     ·
      rw [if_pos c4] at H; have c4b0 : decide (x9_1 < (l0.length : Int)) = true := de_ c4; clear c4; replace H := Option.bind_eq_some_iff.mp H; obtain ⟨t152, A50, H⟩ := H; replace H : (if t152 = true then ((quota_number.f (wrap64 (x4_1 + (rd l0 x9_1)))).bind fun t153 => (if t153 = true then (quota_sum.l0 k1 (wrap64 (x4_1 + (rd l0 x9_1))) l0 (l0.length : Int) (wrap64 (x9_1 + 1))) else (some (0, false)))) else (some (0, false))) = some (r1, r2) := H; have A5 := am_ A50; clear A50
      by_cases c6 : t152 = true
      ·
       subst c6; have H1 : ((quota_number.f (wrap64 (x4_1 + (rd l0 x9_1)))).bind fun t153 => (if t153 = true then (quota_sum.l0 k1 (wrap64 (x4_1 + (rd l0 x9_1))) l0 (l0.length : Int) (wrap64 (x9_1 + 1))) else (some (0, false)))) = some (r1, r2) := by rw [if_pos rfl] at H; exact H
       clear H; have H := H1; clear H1; replace H := Option.bind_eq_some_iff.mp H; obtain ⟨t153, A70, H⟩ := H; replace H : (if t153 = true then (quota_sum.l0 k1 (wrap64 (x4_1 + (rd l0 x9_1))) l0 (l0.length : Int) (wrap64 (x9_1 + 1))) else (some (0, false))) = some (r1, r2) := H; have A7 := am_ A70; clear A70
       by_cases c8 : t153 = true
       ·
        subst c8; have H1 : (quota_sum.l0 k1 (wrap64 (x4_1 + (rd l0 x9_1))) l0 (l0.length : Int) (wrap64 (x9_1 + 1))) = some (r1, r2) := by rw [if_pos rfl] at H; exact H
        clear H; have H := H1; clear H1; have H' := am_ H; clear H; have p151 : 0 ≤ (x9_1 : Int) := ot_ (by first | (with_reducible assumption) | assumption); have q151 : x9_1 < (l0.length : Int) := ot_ (by first | (with_reducible assumption) | assumption); obtain ⟨ad151, e151, hx151_0⟩ := Kd.at_int HR0.out x9_1 p151 q151; cases e151; replace p151 := eq_true p151; replace q151 := eq_true q151
        go_wp2_with (first | ((with_reducible refine gate_callee (f := 27) rfl ?_); refine goesL_ (some 14) rfl rfl Try.func27 (by kernel_rfl) rfl #[.int .i64 (rd l0 x9_1)] rfl au_ ?_; (with_reducible refine (quota_number.calls (rd l0 x9_1) true _ A5.out).mono ?_); rintro e w' ⟨rfl, ⟨nd, rfl⟩⟩; refine ⟨_, rfl, ?_⟩) | (go_at_call 27; (with_reducible refine (quota_number.calls (wrap64 (x4_1 + (rd l0 x9_1))) true _ A7.out).mono ?_); rintro e w' ⟨rfl, ⟨nd, rfl⟩⟩))
        go_roundg k1
        case measure => have := HK1.out; omega
        case rel => exact ⟨(wrap64 (x4_1 + (rd l0 x9_1))), (wrap64 (x9_1 + 1)), (by first | rfl | (simp; done) | (simp [*]; done)), (by first | rfl | (simp; done) | (simp [*]; done)), H', ⟨by have := HK1.out; omega⟩, by repeat (first | exact Drawn0.refl _ | apply Drawn0.step)⟩
       ·
        replace c8 := Bool.eq_false_iff.mpr c8; subst c8; have H1 : (some (0, false)) = some (r1, r2) := by rw [if_neg (show ¬ (false = true) by decide)] at H; exact H
        clear H; have H := H1; clear H1; simp only [Option.some.injEq, Prod.mk.injEq] at H; obtain ⟨rfl, rfl⟩ := H; have p151 : 0 ≤ (x9_1 : Int) := ot_ (by first | (with_reducible assumption) | assumption); have q151 : x9_1 < (l0.length : Int) := ot_ (by first | (with_reducible assumption) | assumption); obtain ⟨ad151, e151, hx151_0⟩ := Kd.at_int HR0.out x9_1 p151 q151; cases e151; replace p151 := eq_true p151; replace q151 := eq_true q151
        go_wp2_with (first | ((with_reducible refine gate_callee (f := 27) rfl ?_); refine goesL_ (some 14) rfl rfl Try.func27 (by kernel_rfl) rfl #[.int .i64 (rd l0 x9_1)] rfl au_ ?_; (with_reducible refine (quota_number.calls (rd l0 x9_1) true _ A5.out).mono ?_); rintro e w' ⟨rfl, ⟨nd, rfl⟩⟩; refine ⟨_, rfl, ?_⟩) | (go_at_call 27; (with_reducible refine (quota_number.calls (wrap64 (x4_1 + (rd l0 x9_1))) false _ A7.out).mono ?_); rintro e w' ⟨rfl, ⟨nd, rfl⟩⟩))
        go_ret2; exact ⟨by first | rfl | (simp; done) | (simp [*]; done), by repeat (first | exact Drawn0.refl _ | apply Drawn0.step)⟩
      ·
       replace c6 := Bool.eq_false_iff.mpr c6; subst c6; have H1 : (some (0, false)) = some (r1, r2) := by rw [if_neg (show ¬ (false = true) by decide)] at H; exact H
       clear H; have H := H1; clear H1; simp only [Option.some.injEq, Prod.mk.injEq] at H; obtain ⟨rfl, rfl⟩ := H; have p151 : 0 ≤ (x9_1 : Int) := ot_ (by first | (with_reducible assumption) | assumption); have q151 : x9_1 < (l0.length : Int) := ot_ (by first | (with_reducible assumption) | assumption); obtain ⟨ad151, e151, hx151_0⟩ := Kd.at_int HR0.out x9_1 p151 q151; cases e151; replace p151 := eq_true p151; replace q151 := eq_true q151
       go_wp2_with (first | ((with_reducible refine gate_callee (f := 27) rfl ?_); refine goesL_ (some 14) rfl rfl Try.func27 (by kernel_rfl) rfl #[.int .i64 (rd l0 x9_1)] rfl au_ ?_; (with_reducible refine (quota_number.calls (rd l0 x9_1) false _ A5.out).mono ?_); rintro e w' ⟨rfl, ⟨nd, rfl⟩⟩; refine ⟨_, rfl, ?_⟩))
       go_ret2; exact ⟨by first | rfl | (simp; done) | (simp [*]; done), by repeat (first | exact Drawn0.refl _ | apply Drawn0.step)⟩
     ·
      rw [if_neg c4] at H; exact absurd H (by simp)
    ·
     rw [if_neg c3] at H; exact absurd H (by simp)
   ·
    rw [if_neg c2] at H; have c2b0 : decide (x9_1 < (l0.length : Int)) = false := df_ c2; clear c2; simp only [Option.some.injEq, Prod.mk.injEq] at H; obtain ⟨rfl, rfl⟩ := H; go_wp2; go_ret2; exact ⟨by first | rfl | (simp; done) | (simp [*]; done), by repeat (first | exact Drawn0.refl _ | apply Drawn0.step)⟩
end Go.Proofs.Ytbadelcnaeijkaa.Q
end
section
namespace Go.Proofs.Ytbadelcnaeijkaa.Q
open Go.RowKit Go.Proofs.YtbadelcnaeijkaaW.PrintWords Go.Proofs.YtbadelcnaeijkaaW.PrintLast Go.Proofs.YtbadelcnaeijkaaW.PrintMore
attribute [local go_sem] max2_int min2_int max_two min_two max_three min_three max_four min_four
attribute [local go_sem ↓] isSome_setCell
attribute [local go_sem] string_gtr
set_option linter.unusedVariables false
set_option linter.unusedSimpArgs false
def sumG (t : Int) : List Int → Int × Bool
  | [] => (t, true)
  | x :: xs => if num x = true ∧ num (t + x) = true then sumG (t + x) xs else (0, false)
theorem num_iff (x : Int) : num x = true ↔ 0 ≤ x ∧ x ≤ 1125899906842624 := by unfold num; exact decide_eq_true_iff
theorem number_eval (x : Int) : quota_number.f x = some (num x) := by
  unfold quota_number.f num
  by_cases h1 : 0 ≤ x
  · by_cases h2 : x ≤ 1125899906842624
    · simp [h1, h2]
    · simp [h1, h2]
  · simp [h1]
theorem sum_l0 (l : List Int) (hl : l.length ≤ 1000000000) : ∀ (m k i : Nat) (t : Int), i + m = l.length → m < k → 0 ≤ t → t ≤ 1125899906842624 → quota_sum.l0 k t l (l.length : Int) (i : Int) = some (sumG t (l.drop i))
  | 0, k + 1, i, t, him, _, _, _ => by
    unfold quota_sum.l0
    rw [if_neg (by omega), List.drop_of_length_le (by omega), sumG]
  | m + 1, k + 1, i, t, him, hk, h0, h1 => by
    have hi : i < l.length := by omega
    unfold quota_sum.l0
    rw [if_pos (by omega), if_pos (by omega), if_pos (by omega)]
    have hrd : rd l (i : Int) = l[i] := by simp [rd, hi]
    rw [hrd, number_eval, List.drop_eq_getElem_cons hi, sumG]
    simp only [Option.bind_some]
    by_cases c : num l[i] = true
    · rw [if_pos c]
      have cc := (num_iff _).1 c
      have hw : wrap64 (t + l[i]) = t + l[i] := by generalize l[i] = x at *; unfold wrap64; omega
      rw [hw, number_eval]
      simp only [Option.bind_some]
      by_cases c2 : num (t + l[i]) = true
      · rw [if_pos c2, if_pos ⟨c, c2⟩]
        have cc2 := (num_iff _).1 c2
        have hwi : wrap64 ((i : Int) + 1) = ((i + 1 : Nat) : Int) := by unfold wrap64; omega
        rw [hwi]
        exact sum_l0 l hl m k (i + 1) (t + l[i]) (by omega) (by omega) cc2.1 cc2.2
      · rw [if_neg c2, if_neg (fun h => c2 h.2)]
    · rw [if_neg c, if_neg (fun h => c h.1)]
theorem sum_f (l : List Int) (hl : l.length ≤ 1000000000) : quota_sum.f (l.length + 1) l = some (sumG 0 l) := by
  have := sum_l0 l hl l.length (l.length + 1) 0 0 (by omega) (by omega) (by omega) (by omega)
  exact this
theorem sumG_ok : ∀ (l : List Int) (t : Int), (sumG t l).2 = true → (sumG t l).1 = t + l.sum ∧ (∀ x ∈ l, num x = true)
  | [], t, _ => by simp [sumG]
  | x :: xs, t, h => by
    unfold sumG at h ⊢
    by_cases c : num x = true ∧ num (t + x) = true
    · rw [if_pos c] at h ⊢
      obtain ⟨h1, h2⟩ := sumG_ok xs (t + x) h
      refine ⟨by rw [h1, List.sum_cons]; omega, fun y hy => ?_⟩
      rcases List.mem_cons.1 hy with rfl | hy
      · exact c.1
      · exact h2 y hy
    · rw [if_neg c] at h; cases h
theorem sumG_num : ∀ (l : List Int) (t : Int), num t = true → (sumG t l).2 = true → num (sumG t l).1 = true
  | [], t, ht, _ => ht
  | x :: xs, t, ht, h => by
    unfold sumG at h ⊢
    by_cases c : num x = true ∧ num (t + x) = true
    · rw [if_pos c] at h ⊢; exact sumG_num xs (t + x) c.2 h
    · rw [if_neg c] at h; cases h
def parts (t a : Int) (l : List Int) (i : Nat) : Int := ((l.take i).map fun x => t * x / a).sum
def rests (t a : Int) (l : List Int) (i : Nat) : Int := ((l.take i).map fun x => t * x % a).sum
theorem parts_step (t a : Int) (l : List Int) (i : Nat) (h : i < l.length) : parts t a l (i + 1) = parts t a l i + t * l[i]! / a := by
  rw [getElem!_pos l i h]
  unfold parts
  rw [List.take_add_one, List.getElem?_eq_getElem h, List.map_append, List.sum_append]
  simp [-List.map_take]
theorem rests_step (t a : Int) (l : List Int) (i : Nat) (h : i < l.length) : rests t a l (i + 1) = rests t a l i + t * l[i]! % a := by
  rw [getElem!_pos l i h]
  unfold rests
  rw [List.take_add_one, List.getElem?_eq_getElem h, List.map_append, List.sum_append]
  simp [-List.map_take]
theorem take_sum_step (l : List Int) (i : Nat) (h : i < l.length) : (l.take (i + 1)).sum = (l.take i).sum + l[i]! := by
  rw [getElem!_pos l i h, List.take_add_one, List.getElem?_eq_getElem h, List.sum_append]
  simp
theorem parts_rests (t a : Int) (l : List Int) : ∀ i, i ≤ l.length → a * parts t a l i + rests t a l i = t * (l.take i).sum
  | 0, _ => by simp [parts, rests]
  | i + 1, h => by
    rw [parts_step t a l i h, rests_step t a l i h, take_sum_step l i h, Int.mul_add, Int.mul_add]
    have := parts_rests t a l i (by omega)
    have e := Int.mul_ediv_add_emod (t * l[i]!) a
    omega
theorem rests_bd (t a : Int) (ha : 0 < a) (l : List Int) : ∀ i, i ≤ l.length → 0 ≤ rests t a l i ∧ rests t a l i ≤ i * (a - 1)
  | 0, _ => by simp [rests]
  | i + 1, h => by
    rw [rests_step t a l i h]
    have := rests_bd t a ha l i (by omega)
    have e1 := Int.emod_nonneg (t * l[i]!) (by omega : a ≠ 0)
    have e2 := Int.emod_lt_of_pos (t * l[i]!) ha
    have e3 : ((i + 1 : Nat) : Int) * (a - 1) = i * (a - 1) + (a - 1) := by rw [Int.natCast_add, Int.add_mul]; simp
    omega
theorem parts_bd (t a : Int) (ht : 0 ≤ t ∧ t ≤ 1125899906842624) (ha : 0 < a) (l : List Int) (hx : ∀ x ∈ l, 0 ≤ x ∧ x ≤ a) : ∀ i, i ≤ l.length → 0 ≤ parts t a l i ∧ parts t a l i ≤ i * 1125899906842624
  | 0, _ => by simp [parts]
  | i + 1, h => by
    rw [parts_step t a l i h]
    have := parts_bd t a ht ha l hx i (by omega)
    have hm := hx l[i]! (by rw [getElem!_pos l i h]; exact List.getElem_mem h)
    have e1 : 0 ≤ t * l[i]! / a := Int.ediv_nonneg (Int.mul_nonneg ht.1 hm.1) (by omega)
    have e2 : t * l[i]! / a ≤ t := Int.ediv_le_of_le_mul ha (Int.mul_le_mul_of_nonneg_left hm.2 ht.1)
    omega
theorem miss_bd (t a : Int) (l : List Int) (ha : 0 < a) (hs : l.sum = a) (hn : 0 < l.length) : 0 ≤ t - parts t a l l.length ∧ t - parts t a l l.length < l.length := by
  have e := parts_rests t a l l.length (Nat.le_refl _)
  rw [List.take_length, hs] at e
  have b := rests_bd t a ha l l.length (Nat.le_refl _)
  have e2 : a * (t - parts t a l l.length) = rests t a l l.length := by rw [Int.mul_sub, Int.mul_comm a t]; omega
  refine ⟨?_, ?_⟩
  · by_cases c : 0 ≤ t - parts t a l l.length
    · exact c
    · have := Int.mul_neg_of_pos_of_neg ha (by omega : t - parts t a l l.length < 0)
      omega
  · by_cases c : t - parts t a l l.length < l.length
    · exact c
    · have h1 : a * (l.length : Int) ≤ a * (t - parts t a l l.length) := Int.mul_le_mul_of_nonneg_left (by omega) (by omega)
      have h2 : (l.length : Int) * (a - 1) = a * (l.length : Int) - l.length := by rw [Int.mul_sub, Int.mul_comm]; omega
      omega
theorem le_sum_of_mem : ∀ (l : List Int), (∀ x ∈ l, 0 ≤ x) → ∀ x ∈ l, x ≤ l.sum
  | [], _, x, h => by cases h
  | y :: ys, h0, x, h => by
    have hs : 0 ≤ ys.sum := by
      clear h
      have h1 : ∀ z ∈ ys, 0 ≤ z := fun z hz => h0 z (List.mem_cons_of_mem _ hz)
      clear h0
      induction ys with
      | nil => simp
      | cons z zs ih =>
        rw [List.sum_cons]
        have a1 := h1 z List.mem_cons_self
        have a2 := ih (fun q hq => h1 q (List.mem_cons_of_mem _ hq))
        omega
    have hy := h0 y List.mem_cons_self
    rw [List.sum_cons]
    rcases List.mem_cons.1 h with rfl | h
    · omega
    · have := le_sum_of_mem ys (fun z hz => h0 z (List.mem_cons_of_mem _ hz)) x h
      omega
def rk (n : Nat) (R : Nat → Int) (j : Nat) : Nat := (List.range n).countP fun i => decide (R j < R i ∨ (R i = R j ∧ i < j))
theorem countP_pre {α : Type} [Inhabited α] (p : α → Bool) (xs : List α) (s : Nat) (hs : s ≤ xs.length) (h1 : ∀ i, i < s → p xs[i]! = true) (h2 : ∀ i, s ≤ i → i < xs.length → p xs[i]! = false) : xs.countP p = s := by
  rw [← List.take_append_drop s xs, List.countP_append]
  have a1 : (xs.take s).countP p = (xs.take s).length := List.countP_eq_length.2 fun x hx => by
    obtain ⟨i, hi, rfl⟩ := List.getElem_of_mem hx
    have hi2 : i < s := by rw [List.length_take] at hi; omega
    have := h1 i hi2
    rw [getElem!_pos xs i (by omega)] at this
    rwa [List.getElem_take]
  have a2 : (xs.drop s).countP p = 0 := List.countP_eq_zero.2 fun x hx => by
    obtain ⟨i, hi, rfl⟩ := List.getElem_of_mem hx
    rw [List.length_drop] at hi
    have := h2 (s + i) (by omega) (by omega)
    rw [getElem!_pos xs (s + i) (by omega)] at this
    rw [List.getElem_drop, this]
    exact Bool.false_ne_true
  rw [a1, a2, List.length_take]
  omega
theorem toList_get! (d : Array Int) (i : Nat) : d.toList[i]! = d[i]! := by
  by_cases h : i < d.size
  · rw [getElem!_pos d.toList i (by simpa using h), getElem!_pos d i h, Array.getElem_toList]
  · rw [getElem!_neg d.toList i (by simpa using h), getElem!_neg d i h]
theorem rank_at (R : Nat → Int) (n : Nat) (d d' : Array Int) (hz : d.size = n) (hI : ∀ p, p < n → d[p]! = (p : Int)) (P : Sort.PermIn 0 n d d') (S : SrtT (TK fun i => R i.toNat) 0 n d') :
    (∀ s, s < n → ∃ j : Nat, j < n ∧ d'[s]! = (j : Int) ∧ rk n R j = s) ∧ (∀ j, j < n → ∃ s, s < n ∧ d'[s]! = (j : Int)) := by
  have hz' : d'.size = n := P.1.trans hz
  have hl : d.toList = (List.range n).map fun (i : Nat) => (i : Int) := by
    apply List.ext_getElem
    · simp [hz]
    · intro i h1 h2
      have h3 : i < n := by simpa [hz] using h1
      have := hI i h3
      rw [getElem!_pos d i (by omega)] at this
      simp [this]
  have hp : d'.toList.Perm ((List.range n).map fun (i : Nat) => (i : Int)) := by
    have := P.2.2
    rw [Array.extract_eq_self_of_le (by omega), Array.extract_eq_self_of_le (by omega), hl] at this
    exact this
  have hnd : d'.toList.Nodup := hp.nodup_iff.2 (by
    rw [List.Nodup, List.pairwise_map]
    exact List.nodup_range.imp (fun h e => h (by omega)))
  have hv : ∀ s, s < n → ∃ j : Nat, j < n ∧ d'[s]! = (j : Int) := fun s hs => by
    have hm : d'[s]! ∈ d'.toList := by rw [getElem!_pos d' s (by omega)]; exact Array.getElem_mem_toList _
    obtain ⟨j, hj, e⟩ := List.mem_map.1 (hp.mem_iff.1 hm)
    exact ⟨j, List.mem_range.1 hj, e.symm⟩
  have hne : ∀ p q, p < q → q < n → d'[p]! ≠ d'[q]! := fun p q h1 h2 e => by
    have := (List.pairwise_iff_getElem.1 hnd) p q (by simpa [hz'] using show p < n by omega) (by simpa [hz'] using h2) h1
    apply this
    rw [getElem!_pos d' p (by omega), getElem!_pos d' q (by omega)] at e
    simpa using e
  refine ⟨fun s hs => ?_, fun j hj => ?_⟩
  · obtain ⟨j, hj, ej⟩ := hv s hs
    refine ⟨j, hj, ej, ?_⟩
    have e1 : rk n R j = d'.toList.countP (fun x => ltK (fun i => R i.toNat) x (j : Int)) := by
      rw [hp.countP_eq, List.countP_map]
      unfold rk
      congr 1
      funext i
      simp only [Function.comp, ltK, Int.toNat_natCast, Int.ofNat_lt]
    rw [e1]
    refine countP_pre _ _ s (by simp [hz']; omega) (fun p hp => ?_) (fun p hp hp2 => ?_)
    · rw [toList_get!, ← ej]
      have t := S p s (by omega) hp hs
      have ne := hne p s hp hs
      unfold TK at t
      simp only [ltK, decide_eq_false_iff_not, decide_eq_true_eq] at t ⊢
      omega
    · rw [toList_get!, ← ej]
      by_cases e : p = s
      · rw [e]; exact (swo_ltK _).irrefl _
      · exact S s p (by omega) (by omega) (by simpa [hz'] using hp2)
  · have hm : (j : Int) ∈ d'.toList := hp.mem_iff.2 (List.mem_map.2 ⟨j, List.mem_range.2 hj, rfl⟩)
    obtain ⟨s, hs, e⟩ := List.getElem_of_mem hm
    refine ⟨s, by simpa [hz'] using hs, ?_⟩
    rw [← toList_get!, getElem!_pos d'.toList s hs, e]
def cnt (d : Array Int) : Nat → Nat → Int
  | 0, _ => 0
  | k + 1, j => cnt d k j + if d[k]! = (j : Int) then 1 else 0
theorem cnt_bd (d : Array Int) (j : Nat) : ∀ k, 0 ≤ cnt d k j ∧ cnt d k j ≤ k
  | 0 => by simp [cnt]
  | k + 1 => by
    have := cnt_bd d j k
    unfold cnt
    split <;> omega
theorem cnt_rank {R : Nat → Int} {n : Nat} {d' : Array Int} (h : (∀ s, s < n → ∃ j : Nat, j < n ∧ d'[s]! = (j : Int) ∧ rk n R j = s) ∧ (∀ j, j < n → ∃ s, s < n ∧ d'[s]! = (j : Int))) (j : Nat) (hj : j < n) :
    ∀ k, k ≤ n → cnt d' k j = if rk n R j < k then 1 else 0
  | 0, _ => by simp [cnt]
  | k + 1, hk => by
    have ih := cnt_rank h j hj k (by omega)
    unfold cnt
    rw [ih]
    obtain ⟨q, hq, e, r⟩ := h.1 k (by omega)
    by_cases c : q = j
    · subst c
      rw [if_pos e, r, if_neg (by omega), if_pos (by omega)]
      rfl
    · have hz0 : ¬ d'[k]! = (j : Int) := by rw [e]; omega
      rw [if_neg hz0]
      have hne : rk n R j ≠ k := fun e2 => by
        obtain ⟨s, hs, e3⟩ := h.2 j hj
        obtain ⟨j2, _, e4, r2⟩ := h.1 s hs
        have : j2 = j := by omega
        subst this
        have : s = k := by omega
        subst this
        omega
      by_cases c2 : rk n R j < k
      · rw [if_pos c2, if_pos (by omega)]; rfl
      · rw [if_neg c2, if_neg (by omega)]; rfl
end Go.Proofs.Ytbadelcnaeijkaa.Q
end
section
namespace Go.Proofs.Ytbadelcnaeijkaa.Q
open Go.RowKit Go.Proofs.YtbadelcnaeijkaaW.PrintWords Go.Proofs.YtbadelcnaeijkaaW.PrintLast Go.Proofs.YtbadelcnaeijkaaW.PrintMore
attribute [local go_sem] max2_int min2_int max_two min_two max_three min_three max_four min_four
attribute [local go_sem ↓] isSome_setCell
attribute [local go_sem] string_gtr
set_option linter.unusedVariables false
set_option linter.unusedSimpArgs false
open Go.Shelf in
set_option maxHeartbeats 8000000 in
set_option maxRecDepth 100000 in
theorem mul_walk (x y : Nat) (hx : x < 18446744073709551616) (hy : y < 18446744073709551616) (w : World) :
    Calls Try.prog 32 #[.int .u64 x, .int .u64 y] w fun e w' => e = .returned (.tuple #[.int .u64 ((x * y / 18446744073709551616 : Nat) : Int), .int .u64 ((x * y % 18446744073709551616 : Nat) : Int)]) ∧ w' = w := by
  obtain ⟨bd, bt, bw, hhi⟩ := Lib.mul64_hi x y hx hy
  have ba := Lib.half_mul_le (a := x / 4294967296) (b := y / 4294967296) (by omega) (by omega)
  have bb := Lib.half_mul_le (a := x / 4294967296) (b := y % 4294967296) (by omega) (by omega)
  have bc := Lib.half_mul_le (a := x % 4294967296) (b := y / 4294967296) (by omega) (by omega)
  have ba' : x / 4294967296 * (y / 4294967296) < 18446744073709551616 := by omega
  have bb' : x / 4294967296 * (y % 4294967296) < 18446744073709551616 := by omega
  have bc' : x % 4294967296 * (y / 4294967296) < 18446744073709551616 := by omega
  have bh1 : x / 4294967296 * (y / 4294967296) + (x / 4294967296 * (y % 4294967296) + x % 4294967296 * (y % 4294967296) / 4294967296) / 4294967296 < 18446744073709551616 := by omega
  have bh : x / 4294967296 * (y / 4294967296) + (x / 4294967296 * (y % 4294967296) + x % 4294967296 * (y % 4294967296) / 4294967296) / 4294967296 + ((x / 4294967296 * (y % 4294967296) + x % 4294967296 * (y % 4294967296) / 4294967296) % 4294967296 + x % 4294967296 * (y / 4294967296)) / 4294967296 < 18446744073709551616 := by rw [hhi]; exact Nat.div_lt_of_lt_mul (Nat.mul_lt_mul'' hx hy)
  go_enter Try.func32, Try.ntmps32
  go_wp2
  simp only [Mul64.maskN x hx, Mul64.maskN y hy, Mul64.divN, Mul64.mulN, Mul64.addN, Mul64.wrapN _ bd, Mul64.wrapN _ bb', Mul64.wrapN _ bt, Mul64.maskN _ bt, Mul64.wrapN _ bc', Mul64.wrapN _ bw, Mul64.wrapN _ ba', Mul64.wrapN _ bh1, Mul64.wrapN _ bh, Mul64.wrapM (x * y)]
  rw [hhi]
  go_ret2
  exact ⟨rfl, rfl⟩
end Go.Proofs.Ytbadelcnaeijkaa.Q
end
section
namespace Go.Proofs.Ytbadelcnaeijkaa.Q
open Go.RowKit Go.Proofs.YtbadelcnaeijkaaW.PrintWords Go.Proofs.YtbadelcnaeijkaaW.PrintLast Go.Proofs.YtbadelcnaeijkaaW.PrintMore
attribute [local go_sem] max2_int min2_int max_two min_two max_three min_three max_four min_four
attribute [local go_sem ↓] isSome_setCell
attribute [local go_sem] string_gtr
set_option linter.unusedVariables false
set_option linter.unusedSimpArgs false
structure DI (Y Y1 Y0 U D : Nat) : Prop where
  y : Y = Y1 * 4294967296 + Y0
  y1 : 2147483648 ≤ Y1
  y1' : Y1 < 4294967296
  y0 : Y0 < 4294967296
  u : U < Y
  d : D < 4294967296
structure DInv (Y Y1 U D q r : Nat) : Prop where
  e : q * Y1 + r = U
  ge : (U * 4294967296 + D) / Y ≤ q
  lt : r < 4294967296
  le : q ≤ 4294967297
section
variable {Y Y1 Y0 U D q r : Nat}
theorem DI.lt (h : DI Y Y1 Y0 U D) : (U * 4294967296 + D) / Y < 4294967296 := by
  have := h.u; have := h.d; have := h.y1; have := h.y
  refine Nat.div_lt_of_lt_mul ?_
  have h1 : (U + 1) * 4294967296 ≤ Y * 4294967296 := Nat.mul_le_mul_right _ (by omega)
  omega
theorem DI.start (h : DI Y Y1 Y0 U D) : DInv Y Y1 U D (U / Y1) (U % Y1) := by
  have := h.u; have hd := h.d; have hy1 := h.y1; have hy := h.y; have := h.y1'; have := h.y0
  have hlt : U % Y1 < Y1 := Nat.mod_lt _ (by omega)
  have he : U / Y1 * Y1 + U % Y1 = U := by rw [Nat.mul_comm]; exact Nat.div_add_mod U Y1
  refine ⟨he, ?_, by omega, ?_⟩
  · refine Nat.le_of_lt_succ (Nat.div_lt_of_lt_mul ?_)
    generalize U / Y1 = q at *
    have h1 : (q + 1) * Y1 = q * Y1 + Y1 := by rw [Nat.add_mul, Nat.one_mul]
    have h2 : (q + 1) * Y = (q + 1) * Y1 * 4294967296 + (q + 1) * Y0 := by rw [hy, Nat.mul_add, Nat.mul_assoc]
    have h3 : (U + 1) * 4294967296 ≤ (q + 1) * Y1 * 4294967296 := Nat.mul_le_mul_right _ (by omega)
    rw [Nat.mul_comm Y, Nat.succ_eq_add_one, h2]
    omega
  · refine Nat.le_of_lt_succ (Nat.div_lt_of_lt_mul ?_)
    have h1 : Y1 * 4294967298 = Y1 * 4294967296 + 2 * Y1 := by omega
    show U < Y1 * 4294967298
    omega
theorem DInv.step (h : DI Y Y1 Y0 U D) (i : DInv Y Y1 U D q r) (c : 4294967296 ≤ q ∨ 4294967296 * r + D < q * Y0) :
    0 < q ∧ (q - 1) * Y1 + (r + Y1) = U ∧ (U * 4294967296 + D) / Y ≤ q - 1 ∧ q - 1 ≤ 4294967296 := by
  have hlt := h.lt
  have hy := h.y
  have he := i.e
  have hm := i.le
  have hq : (U * 4294967296 + D) / Y < q := by
    rcases c with c | c
    · omega
    · refine Nat.div_lt_of_lt_mul ?_
      have h2 : q * Y = q * Y1 * 4294967296 + q * Y0 := by rw [hy, Nat.mul_add, Nat.mul_assoc]
      rw [Nat.mul_comm Y, h2]
      generalize q * Y1 = A at *
      generalize q * Y0 = B at *
      omega
  have hq0 : 0 < q := Nat.lt_of_le_of_lt (Nat.zero_le _) hq
  obtain ⟨p, rfl⟩ : ∃ p, q = p + 1 := ⟨q - 1, by omega⟩
  refine ⟨hq0, ?_, by omega, by omega⟩
  rw [Nat.add_mul, Nat.one_mul] at he
  rw [Nat.add_sub_cancel]
  omega
theorem DInv.done (h : DI Y Y1 Y0 U D) (i : DInv Y Y1 U D q r) (c1 : q < 4294967296) (c2 : ¬ 4294967296 * r + D < q * Y0) : q = (U * 4294967296 + D) / Y := by
  refine Nat.le_antisymm ((Nat.le_div_iff_mul_le (by have := h.u; omega)).2 ?_) i.ge
  have he := i.e
  have h2 : q * Y = q * Y1 * 4294967296 + q * Y0 := by rw [h.y, Nat.mul_add, Nat.mul_assoc]
  rw [h2]
  generalize q * Y1 = A at *
  generalize q * Y0 = B at *
  omega
theorem DI.done2 (h : DI Y Y1 Y0 U D) (e : q * Y1 + r = U) (hr : 4294967296 ≤ r) (hq : q ≤ 4294967296) (hg : (U * 4294967296 + D) / Y ≤ q) : q = (U * 4294967296 + D) / Y := by
  refine Nat.le_antisymm ((Nat.le_div_iff_mul_le (by have := h.u; omega)).2 ?_) hg
  have h2 : q * Y = q * Y1 * 4294967296 + q * Y0 := by rw [h.y, Nat.mul_add, Nat.mul_assoc]
  have h3 : q * Y0 ≤ 4294967296 * 4294967296 := Nat.mul_le_mul hq (Nat.le_of_lt h.y0)
  rw [h2]
  generalize q * Y1 = A at *
  generalize q * Y0 = B at *
  omega
theorem div_two {n y s Y N V0 q1 q0 : Nat} (hY : Y = y * 2 ^ s) (hy : 0 < Y) (hn : n * 2 ^ s = N * 4294967296 + V0) (h1 : q1 = N / Y) (h0 : q0 = (N % Y * 4294967296 + V0) / Y) :
    q1 * 4294967296 + q0 = n / y ∧ (N % Y * 4294967296 + V0) % Y / 2 ^ s = n % y := by
  have hp : 0 < 2 ^ s := Nat.pow_pos (by omega)
  have hdm := Nat.div_add_mod N Y
  have e : n * 2 ^ s = Y * (q1 * 4294967296) + (N % Y * 4294967296 + V0) := by
    rw [hn, h1, ← Nat.mul_assoc]
    omega
  have hdiv : n * 2 ^ s / Y = n / y := by rw [hY]; exact Nat.mul_div_mul_right _ _ hp
  have hmod : n * 2 ^ s % Y = n % y * 2 ^ s := by rw [hY]; exact Nat.mul_mod_mul_right _ _ _
  refine ⟨?_, ?_⟩
  · rw [← hdiv, e, Nat.mul_add_div hy, h0]
  · have : n * 2 ^ s % Y = (N % Y * 4294967296 + V0) % Y := by rw [e, Nat.mul_add_mod]
    rw [← this, hmod, Nat.mul_div_cancel _ hp]
end
end Go.Proofs.Ytbadelcnaeijkaa.Q
end
section
namespace Go.Proofs.Ytbadelcnaeijkaa.Q
open Go.RowKit Go.Proofs.YtbadelcnaeijkaaW.PrintWords Go.Proofs.YtbadelcnaeijkaaW.PrintLast Go.Proofs.YtbadelcnaeijkaaW.PrintMore
attribute [local go_sem] max2_int min2_int max_two min_two max_three min_three max_four min_four
attribute [local go_sem ↓] isSome_setCell
attribute [local go_sem] string_gtr
set_option linter.unusedVariables false
set_option linter.unusedSimpArgs false
theorem wrapU (a : Nat) (ha : a < 18446744073709551616) : IntKind.u64.wrap (a : Int) = (a : Int) := by rw [IntKind.wrap_u64]; omega
theorem wrapUm (a : Nat) : IntKind.u64.wrap (a : Int) = ((a % 18446744073709551616 : Nat) : Int) := by rw [IntKind.wrap_u64]; omega
theorem castPow (a s : Nat) : (a : Int) * 2 ^ s = ((a * 2 ^ s : Nat) : Int) := by push_cast; rfl
open Go.Shelf Go.Lib in
theorem or_parts (hi lo s : Nat) (hs : s < 64) (h : hi * 2 ^ s < 18446744073709551616) (hlo : lo < 18446744073709551616) (hd : hi * 2 ^ s + lo / 2 ^ (64 - s) < 18446744073709551616) : bits BinOp.or IntKind.u64 ((hi * 2 ^ s : Nat) : Int) ((lo / 2 ^ (64 - s) : Nat) : Int) = ((hi * 2 ^ s + lo / 2 ^ (64 - s) : Nat) : Int) := by
  have hl : lo / 2 ^ (64 - s) < 2 ^ s := by
    refine Nat.div_lt_of_lt_mul ?_
    rw [← Nat.pow_add, show 64 - s + s = 64 by omega]
    exact hlo
  have hb := bits_or_u64_nat (hi * 2 ^ s) (lo / 2 ^ (64 - s)) h (by omega)
  rw [hb]
  congr 1
  have := Nat.shiftLeft_add_eq_or_of_lt hl hi
  rw [Nat.shiftLeft_eq] at this
  exact this.symm
theorem first_guess {Y Y1 Y0 U D : Nat} (h : DI Y Y1 Y0 U D) : ∃ Q R : Nat, IntKind.u64.wrap ((U : Int) / (Y1 : Int)) = (Q : Int) ∧ IntKind.u64.wrap ((U : Int) - IntKind.u64.wrap ((Q : Int) * (Y1 : Int))) = (R : Int) ∧ DInv Y Y1 U D Q R := by
  have hST := h.start
  have h1 := h.y1; have h2 := h.y1'; have h3 := h.u; have h4 := h.y; have h5 := h.y0
  refine ⟨U / Y1, U % Y1, ?_, ?_, hST⟩
  · have := hST.le
    rw [← Int.natCast_ediv]
    exact wrapU _ (by omega)
  · have he := hST.e
    have := hST.lt
    rw [← Int.natCast_mul]
    generalize U / Y1 * Y1 = A at *
    generalize U % Y1 = R at *
    rw [wrapU A (by omega), IntKind.wrap_u64]
    omega
theorem wrap_three {U V q Y N W : Nat} (hN : N = U * 4294967296 + V) (hd : q * Y + W = N) (hW : W < 18446744073709551616) :
    IntKind.u64.wrap (IntKind.u64.wrap (IntKind.u64.wrap ((U : Int) * 4294967296) + (V : Int)) - IntKind.u64.wrap ((q : Int) * (Y : Int))) = (W : Int) := by
  rw [← Int.natCast_mul]
  generalize q * Y = P at *
  rw [IntKind.wrap_u64, IntKind.wrap_u64, IntKind.wrap_u64, IntKind.wrap_u64]
  omega
theorem un21 {Y Y1 Y0 U V1 q : Nat} (h : DI Y Y1 Y0 U V1) (hq : q = (U * 4294967296 + V1) / Y) : ∃ W : Nat, W = (U * 4294967296 + V1) % Y ∧ W < Y ∧
    IntKind.u64.wrap (IntKind.u64.wrap (IntKind.u64.wrap ((U : Int) * 4294967296) + (V1 : Int)) - IntKind.u64.wrap ((q : Int) * (Y : Int))) = (W : Int) := by
  have h1 := h.y1'; have h3 := h.u; have h4 := h.y; have h5 := h.y0
  have hlt : (U * 4294967296 + V1) % Y < Y := Nat.mod_lt _ (by omega)
  refine ⟨_, rfl, hlt, wrap_three rfl ?_ (by omega)⟩
  rw [hq, Nat.mul_comm]
  exact Nat.div_add_mod _ _
theorem div_end {Y Y1 Y0 U V1 V0 W q q2 : Nat} (h : DI Y Y1 Y0 U V1) (h2 : DI Y Y1 Y0 W V0) (hq : q = (U * 4294967296 + V1) / Y) (hW : W = (U * 4294967296 + V1) % Y) (hq2 : q2 = (W * 4294967296 + V0) / Y) :
    ∃ RES Z : Nat, IntKind.u64.wrap (IntKind.u64.wrap ((q : Int) * 4294967296) + (q2 : Int)) = (RES : Int) ∧ IntKind.u64.wrap ((q : Int) * 4294967296 + (q2 : Int)) = (RES : Int) ∧ IntKind.u64.wrap (IntKind.u64.wrap (IntKind.u64.wrap ((W : Int) * 4294967296) + (V0 : Int)) - IntKind.u64.wrap ((q2 : Int) * (Y : Int))) = (Z : Int) ∧
      ((U * 4294967296 + V1) / Y * 4294967296 + ((U * 4294967296 + V1) % Y * 4294967296 + V0) / Y = RES ∧ ((U * 4294967296 + V1) % Y * 4294967296 + V0) % Y = Z) := by
  have h1 := h.y1'; have h3 := h2.u; have h4 := h.y; have h5 := h.y0
  have hl1 := h.lt
  have hl2 := h2.lt
  have hlt : (W * 4294967296 + V0) % Y < Y := Nat.mod_lt _ (by omega)
  refine ⟨q * 4294967296 + q2, (W * 4294967296 + V0) % Y, ?_, ?_, wrap_three rfl ?_ (by omega), by rw [← hW, ← hq, ← hq2], by rw [← hW]⟩
  · rw [← hq] at hl1
    rw [← hq2] at hl2
    rw [IntKind.wrap_u64, IntKind.wrap_u64]
    omega
  · rw [← hq] at hl1
    rw [← hq2] at hl2
    rw [IntKind.wrap_u64]
    omega
  · rw [hq2, Nat.mul_comm]
    exact Nat.div_add_mod _ _
set_option maxHeartbeats 16000000 in
set_option maxRecDepth 100000 in
theorem divg_walk (hi lo y s Y Y1 Y0 U V V1 V0 : Nat) (hLZ : ∀ W, Calls Try.prog 44 #[.int .u64 y] W fun e w' => e = .returned (.int .i64 (s : Int)) ∧ w' = W)
    (hh : 0 < hi) (hy : hi < y) (hs : s < 64)
    (eY : IntKind.u64.wrap ((y : Int) * 2 ^ s) = (Y : Int)) (eY1 : (Y : Int) / 4294967296 = (Y1 : Int)) (eY0 : bits BinOp.and IntKind.u64 (Y : Int) 4294967295 = (Y0 : Int))
    (eU : bits BinOp.or IntKind.u64 (IntKind.u64.wrap ((hi : Int) * 2 ^ s)) ((lo : Int) / 2 ^ (64 - s)) = (U : Int)) (eV : IntKind.u64.wrap ((lo : Int) * 2 ^ s) = (V : Int)) (eV1 : (V : Int) / 4294967296 = (V1 : Int)) (eV0 : bits BinOp.and IntKind.u64 (V : Int) 4294967295 = (V0 : Int))
    (hD : DI Y Y1 Y0 U V1) (hV0 : V0 < 4294967296) (w : World) :
    Calls Try.prog 33 #[.int .u64 hi, .int .u64 lo, .int .u64 y] w fun e w' => e = .returned (.tuple #[.int .u64 (((U * 4294967296 + V1) / Y * 4294967296 + ((U * 4294967296 + V1) % Y * 4294967296 + V0) / Y : Nat) : Int), .int .u64 (((((U * 4294967296 + V1) % Y * 4294967296 + V0) % Y) / 2 ^ s : Nat) : Int)]) ∧ ∃ m, w' = w.drewN m := by
  have b1 : ((y : Int) == 0) = false := beq_eq_false_iff_ne.2 (by omega)
  have b2 : decide ((y : Int) ≤ hi) = false := decide_eq_false (by omega)
  have b3 : ((hi : Int) == 0) = false := beq_eq_false_iff_ne.2 (by omega)
  have hy1 := hD.y1
  have hy1' := hD.y1'
  have hu0 := hD.u
  have hy00 := hD.y
  have hy01 := hD.y0
  have b4 : ((Y1 : Int) == 0) = false := beq_eq_false_iff_ne.2 (by omega)
  obtain ⟨Q, R, eQ, eR, hST⟩ := first_guess hD
  have hU64 : U < 18446744073709551616 := by omega
  have HST := Aside0.mk hST
  have HD := Aside0.mk hD
  have HLZ := Aside0.mk hLZ
  have HV0 := Aside0.mk hV0
  clear hLZ hST hD hy00 hu0 hy01 hV0
  go_enter Try.func33, Try.ntmps33
  go_wp2_with (first | (go_at_call 44; refine (HLZ.out _).mono ?_; rintro e w5 ⟨rfl, hw5⟩; subst w5))
  go_loopw [15, 16] (fun vq vr wq => wq = w ∧ ∃ (q r : Nat), vq = .int .u64 q ∧ vr = .int .u64 r ∧ Aside0 (DInv Y Y1 U V1 q r)) (fun vq _ _ => (Proofs.intOf vq).toNat)
  case atStart => exact ⟨rfl, _, _, rfl, rfl, HST⟩
  case round =>
    obtain ⟨hwr, q, r, rfl, rfl, HI⟩ := hrel
    subst wr
    clear HST
    have hql := HI.out.le
    have hrl := HI.out.lt
    by_cases c1 : 4294967296 ≤ q
    · have b5 : decide ((4294967296 : Int) ≤ (q : Int)) = true := decide_eq_true (by omega)
      have b5n : decide (4294967296 ≤ q) = true := decide_eq_true (by omega)
      obtain ⟨g1, g2, g3, g4⟩ := HI.out.step HD.out (.inl c1)
      have G2 := Aside0.mk g2
      have G3 := Aside0.mk g3
      clear g2 g3
      obtain ⟨p, hp⟩ : ∃ p : Nat, q = p + 1 := ⟨q - 1, by omega⟩
      obtain ⟨t, ht⟩ : ∃ t : Nat, t = r + Y1 := ⟨_, rfl⟩
      have eP : IntKind.u64.wrap ((q : Int) - 1) = (p : Int) := by rw [IntKind.wrap_u64]; omega
      have eT : IntKind.u64.wrap ((r : Int) + (Y1 : Int)) = (t : Int) := by rw [IntKind.wrap_u64]; omega
      rw [← ht, hp, Nat.add_sub_cancel] at G2
      rw [hp, Nat.add_sub_cancel] at G3
      have hpl : p ≤ 4294967296 := by omega
      have hpq : p < q := by omega
      clear hp ht g1 g4
      by_cases c3 : 4294967296 ≤ t
      · have b6 : decide ((4294967296 : Int) ≤ (t : Int)) = true := decide_eq_true (by omega)
        have b6n : decide (4294967296 ≤ t) = true := decide_eq_true (by omega)
        have hq := HD.out.done2 G2.out c3 hpl G3.out
        have HQ := Aside0.mk hq
        clear hq
        obtain ⟨W, hW, hWY, e93⟩ := un21 HD.out HQ.out
        have hD2 : DI Y Y1 Y0 W V0 := ⟨HD.out.y, HD.out.y1, HD.out.y1', HD.out.y0, hWY, HV0.out⟩
        obtain ⟨Q2, R2, eQ2, eR2, hST2⟩ := first_guess hD2
        have HW := Aside0.mk hW
        have HD2 := Aside0.mk hD2
        have HST2 := Aside0.mk hST2
        clear hW hD2 hST2 hWY
        go_wp2
        go_loopw [16, 18] (fun vr vq wq => wq = w ∧ ∃ (q r : Nat), vq = .int .u64 q ∧ vr = .int .u64 r ∧ Aside0 (DInv Y Y1 W V0 q r)) (fun _ vq _ => (Proofs.intOf vq).toNat)
        case atStart => exact ⟨rfl, _, _, rfl, rfl, HST2⟩
        case round =>
          obtain ⟨hwr, q, r, rfl, rfl, HI⟩ := hrel
          subst wr
          clear HST2
          have hql := HI.out.le
          have hrl := HI.out.lt
          by_cases c1 : 4294967296 ≤ q
          · have b5 : decide ((4294967296 : Int) ≤ (q : Int)) = true := decide_eq_true (by omega)
            have b5n : decide (4294967296 ≤ q) = true := decide_eq_true (by omega)
            obtain ⟨g1, g2, g3, g4⟩ := HI.out.step HD2.out (.inl c1)
            have G2 := Aside0.mk g2
            have G3 := Aside0.mk g3
            clear g2 g3
            obtain ⟨p, hp⟩ : ∃ p : Nat, q = p + 1 := ⟨q - 1, by omega⟩
            obtain ⟨t, ht⟩ : ∃ t : Nat, t = r + Y1 := ⟨_, rfl⟩
            have eP : IntKind.u64.wrap ((q : Int) - 1) = (p : Int) := by rw [IntKind.wrap_u64]; omega
            have eT : IntKind.u64.wrap ((r : Int) + (Y1 : Int)) = (t : Int) := by rw [IntKind.wrap_u64]; omega
            rw [← ht, hp, Nat.add_sub_cancel] at G2
            rw [hp, Nat.add_sub_cancel] at G3
            have hpl : p ≤ 4294967296 := by omega
            have hpq : p < q := by omega
            clear hp ht g1 g4
            by_cases c3 : 4294967296 ≤ t
            · have b6 : decide ((4294967296 : Int) ≤ (t : Int)) = true := decide_eq_true (by omega)
              have b6n : decide (4294967296 ≤ t) = true := decide_eq_true (by omega)
              have hq := HD2.out.done2 G2.out c3 hpl G3.out
              have HQ2 := Aside0.mk hq
              clear hq
              obtain ⟨RES, Z, e124, e124b, e132, hfin⟩ := div_end HD.out HD2.out HQ.out HW.out HQ2.out
              have HF := Aside0.mk hfin
              clear hfin
              go_wp2
              go_ret2
              exact ⟨by rw [HF.out.1, HF.out.2, Int.natCast_ediv, Int.natCast_pow]; rfl, 0, rfl⟩
            · have b6 : decide ((4294967296 : Int) ≤ (t : Int)) = false := decide_eq_false (by omega)
              have b6n : decide (4294967296 ≤ t) = false := decide_eq_false (by omega)
              have HI2 : Aside0 (DInv Y Y1 W V0 p t) := ⟨⟨G2.out, G3.out, by omega, by omega⟩⟩
              go_wp2
              go_roundw
              case rel => first | exact ⟨rfl, p, t, rfl, rfl, HI2⟩ | exact ⟨trivial, p, t, rfl, rfl, HI2⟩
              case measure => simp [Proofs.intOf]; omega
          · have b5 : decide ((4294967296 : Int) ≤ (q : Int)) = false := decide_eq_false (by omega)
            have b5n : decide (4294967296 ≤ q) = false := decide_eq_false (by omega)
            obtain ⟨A, hA⟩ : ∃ A : Nat, A = q * Y0 := ⟨_, rfl⟩
            have hAl : A < 18446744073709551616 := by rw [hA]; exact Nat.lt_of_le_of_lt (Nat.mul_le_mul (show q ≤ 4294967295 by omega) (Nat.le_of_lt HD2.out.y0)) (by omega)
            have e72 : IntKind.u64.wrap ((q : Int) * (Y0 : Int)) = (A : Int) := by rw [← Int.natCast_mul, ← hA]; exact wrapU A hAl
            obtain ⟨C, hC⟩ : ∃ C : Nat, C = 4294967296 * r + V0 := ⟨_, rfl⟩
            have hDl := HD2.out.d
            have e76 : IntKind.u64.wrap (IntKind.u64.wrap (4294967296 * (r : Int)) + (V0 : Int)) = (C : Int) := by rw [IntKind.wrap_u64, IntKind.wrap_u64]; omega
            have e76b : IntKind.u64.wrap (4294967296 * (r : Int) + (V0 : Int)) = (C : Int) := by rw [IntKind.wrap_u64]; omega
            by_cases c2 : C < A
            · have b7 : decide ((C : Int) < (A : Int)) = true := decide_eq_true (by omega)
              have b7n : decide (C < A) = true := decide_eq_true (by omega)
              have src : 4294967296 * r + V0 < q * Y0 := by rw [← hA, ← hC]; exact c2
              clear hA hC hDl c2
              obtain ⟨g1, g2, g3, g4⟩ := HI.out.step HD2.out (.inr src)
              have G2 := Aside0.mk g2
              have G3 := Aside0.mk g3
              clear g2 g3
              obtain ⟨p, hp⟩ : ∃ p : Nat, q = p + 1 := ⟨q - 1, by omega⟩
              obtain ⟨t, ht⟩ : ∃ t : Nat, t = r + Y1 := ⟨_, rfl⟩
              have eP : IntKind.u64.wrap ((q : Int) - 1) = (p : Int) := by rw [IntKind.wrap_u64]; omega
              have eT : IntKind.u64.wrap ((r : Int) + (Y1 : Int)) = (t : Int) := by rw [IntKind.wrap_u64]; omega
              rw [← ht, hp, Nat.add_sub_cancel] at G2
              rw [hp, Nat.add_sub_cancel] at G3
              have hpl : p ≤ 4294967296 := by omega
              have hpq : p < q := by omega
              clear hp ht g1 g4 src
              by_cases c3 : 4294967296 ≤ t
              · have b6 : decide ((4294967296 : Int) ≤ (t : Int)) = true := decide_eq_true (by omega)
                have b6n : decide (4294967296 ≤ t) = true := decide_eq_true (by omega)
                have hq := HD2.out.done2 G2.out c3 hpl G3.out
                have HQ2 := Aside0.mk hq
                clear hq
                obtain ⟨RES, Z, e124, e124b, e132, hfin⟩ := div_end HD.out HD2.out HQ.out HW.out HQ2.out
                have HF := Aside0.mk hfin
                clear hfin
                go_wp2
                go_ret2
                exact ⟨by rw [HF.out.1, HF.out.2, Int.natCast_ediv, Int.natCast_pow]; rfl, 0, rfl⟩
              · have b6 : decide ((4294967296 : Int) ≤ (t : Int)) = false := decide_eq_false (by omega)
                have b6n : decide (4294967296 ≤ t) = false := decide_eq_false (by omega)
                have HI2 : Aside0 (DInv Y Y1 W V0 p t) := ⟨⟨G2.out, G3.out, by omega, by omega⟩⟩
                go_wp2
                go_roundw
                case rel => first | exact ⟨rfl, p, t, rfl, rfl, HI2⟩ | exact ⟨trivial, p, t, rfl, rfl, HI2⟩
                case measure => simp [Proofs.intOf]; omega
            · have b7 : decide ((C : Int) < (A : Int)) = false := decide_eq_false (by omega)
              have b7n : decide (C < A) = false := decide_eq_false (by omega)
              have hq := HI.out.done HD2.out (by omega) (by rw [← hA, ← hC]; exact c2)
              have HQ2 := Aside0.mk hq
              clear hq hA hC hDl c2
              obtain ⟨RES, Z, e124, e124b, e132, hfin⟩ := div_end HD.out HD2.out HQ.out HW.out HQ2.out
              have HF := Aside0.mk hfin
              clear hfin
              go_wp2
              go_ret2
              exact ⟨by rw [HF.out.1, HF.out.2, Int.natCast_ediv, Int.natCast_pow]; rfl, 0, rfl⟩
      · have b6 : decide ((4294967296 : Int) ≤ (t : Int)) = false := decide_eq_false (by omega)
        have b6n : decide (4294967296 ≤ t) = false := decide_eq_false (by omega)
        have HI2 : Aside0 (DInv Y Y1 U V1 p t) := ⟨⟨G2.out, G3.out, by omega, by omega⟩⟩
        go_wp2
        go_roundw
        case rel => first | exact ⟨rfl, p, t, rfl, rfl, HI2⟩ | exact ⟨trivial, p, t, rfl, rfl, HI2⟩
        case measure => simp [Proofs.intOf]; omega
    · have b5 : decide ((4294967296 : Int) ≤ (q : Int)) = false := decide_eq_false (by omega)
      have b5n : decide (4294967296 ≤ q) = false := decide_eq_false (by omega)
      obtain ⟨A, hA⟩ : ∃ A : Nat, A = q * Y0 := ⟨_, rfl⟩
      have hAl : A < 18446744073709551616 := by rw [hA]; exact Nat.lt_of_le_of_lt (Nat.mul_le_mul (show q ≤ 4294967295 by omega) (Nat.le_of_lt HD.out.y0)) (by omega)
      have e72 : IntKind.u64.wrap ((q : Int) * (Y0 : Int)) = (A : Int) := by rw [← Int.natCast_mul, ← hA]; exact wrapU A hAl
      obtain ⟨C, hC⟩ : ∃ C : Nat, C = 4294967296 * r + V1 := ⟨_, rfl⟩
      have hDl := HD.out.d
      have e76 : IntKind.u64.wrap (IntKind.u64.wrap (4294967296 * (r : Int)) + (V1 : Int)) = (C : Int) := by rw [IntKind.wrap_u64, IntKind.wrap_u64]; omega
      have e76b : IntKind.u64.wrap (4294967296 * (r : Int) + (V1 : Int)) = (C : Int) := by rw [IntKind.wrap_u64]; omega
      by_cases c2 : C < A
      · have b7 : decide ((C : Int) < (A : Int)) = true := decide_eq_true (by omega)
        have b7n : decide (C < A) = true := decide_eq_true (by omega)
        have src : 4294967296 * r + V1 < q * Y0 := by rw [← hA, ← hC]; exact c2
        clear hA hC hDl c2
        obtain ⟨g1, g2, g3, g4⟩ := HI.out.step HD.out (.inr src)
        have G2 := Aside0.mk g2
        have G3 := Aside0.mk g3
        clear g2 g3
        obtain ⟨p, hp⟩ : ∃ p : Nat, q = p + 1 := ⟨q - 1, by omega⟩
        obtain ⟨t, ht⟩ : ∃ t : Nat, t = r + Y1 := ⟨_, rfl⟩
        have eP : IntKind.u64.wrap ((q : Int) - 1) = (p : Int) := by rw [IntKind.wrap_u64]; omega
        have eT : IntKind.u64.wrap ((r : Int) + (Y1 : Int)) = (t : Int) := by rw [IntKind.wrap_u64]; omega
        rw [← ht, hp, Nat.add_sub_cancel] at G2
        rw [hp, Nat.add_sub_cancel] at G3
        have hpl : p ≤ 4294967296 := by omega
        have hpq : p < q := by omega
        clear hp ht g1 g4 src
        by_cases c3 : 4294967296 ≤ t
        · have b6 : decide ((4294967296 : Int) ≤ (t : Int)) = true := decide_eq_true (by omega)
          have b6n : decide (4294967296 ≤ t) = true := decide_eq_true (by omega)
          have hq := HD.out.done2 G2.out c3 hpl G3.out
          have HQ := Aside0.mk hq
          clear hq
          obtain ⟨W, hW, hWY, e93⟩ := un21 HD.out HQ.out
          have hD2 : DI Y Y1 Y0 W V0 := ⟨HD.out.y, HD.out.y1, HD.out.y1', HD.out.y0, hWY, HV0.out⟩
          obtain ⟨Q2, R2, eQ2, eR2, hST2⟩ := first_guess hD2
          have HW := Aside0.mk hW
          have HD2 := Aside0.mk hD2
          have HST2 := Aside0.mk hST2
          clear hW hD2 hST2 hWY
          go_wp2
          go_loopw [16, 18] (fun vr vq wq => wq = w ∧ ∃ (q r : Nat), vq = .int .u64 q ∧ vr = .int .u64 r ∧ Aside0 (DInv Y Y1 W V0 q r)) (fun _ vq _ => (Proofs.intOf vq).toNat)
          case atStart => exact ⟨rfl, _, _, rfl, rfl, HST2⟩
          case round =>
            obtain ⟨hwr, q, r, rfl, rfl, HI⟩ := hrel
            subst wr
            clear HST2
            have hql := HI.out.le
            have hrl := HI.out.lt
            by_cases c1 : 4294967296 ≤ q
            · have b5 : decide ((4294967296 : Int) ≤ (q : Int)) = true := decide_eq_true (by omega)
              have b5n : decide (4294967296 ≤ q) = true := decide_eq_true (by omega)
              obtain ⟨g1, g2, g3, g4⟩ := HI.out.step HD2.out (.inl c1)
              have G2 := Aside0.mk g2
              have G3 := Aside0.mk g3
              clear g2 g3
              obtain ⟨p, hp⟩ : ∃ p : Nat, q = p + 1 := ⟨q - 1, by omega⟩
              obtain ⟨t, ht⟩ : ∃ t : Nat, t = r + Y1 := ⟨_, rfl⟩
              have eP : IntKind.u64.wrap ((q : Int) - 1) = (p : Int) := by rw [IntKind.wrap_u64]; omega
              have eT : IntKind.u64.wrap ((r : Int) + (Y1 : Int)) = (t : Int) := by rw [IntKind.wrap_u64]; omega
              rw [← ht, hp, Nat.add_sub_cancel] at G2
              rw [hp, Nat.add_sub_cancel] at G3
              have hpl : p ≤ 4294967296 := by omega
              have hpq : p < q := by omega
              clear hp ht g1 g4
              by_cases c3 : 4294967296 ≤ t
              · have b6 : decide ((4294967296 : Int) ≤ (t : Int)) = true := decide_eq_true (by omega)
                have b6n : decide (4294967296 ≤ t) = true := decide_eq_true (by omega)
                have hq := HD2.out.done2 G2.out c3 hpl G3.out
                have HQ2 := Aside0.mk hq
                clear hq
                obtain ⟨RES, Z, e124, e124b, e132, hfin⟩ := div_end HD.out HD2.out HQ.out HW.out HQ2.out
                have HF := Aside0.mk hfin
                clear hfin
                go_wp2
                go_ret2
                exact ⟨by rw [HF.out.1, HF.out.2, Int.natCast_ediv, Int.natCast_pow]; rfl, 0, rfl⟩
              · have b6 : decide ((4294967296 : Int) ≤ (t : Int)) = false := decide_eq_false (by omega)
                have b6n : decide (4294967296 ≤ t) = false := decide_eq_false (by omega)
                have HI2 : Aside0 (DInv Y Y1 W V0 p t) := ⟨⟨G2.out, G3.out, by omega, by omega⟩⟩
                go_wp2
                go_roundw
                case rel => first | exact ⟨rfl, p, t, rfl, rfl, HI2⟩ | exact ⟨trivial, p, t, rfl, rfl, HI2⟩
                case measure => simp [Proofs.intOf]; omega
            · have b5 : decide ((4294967296 : Int) ≤ (q : Int)) = false := decide_eq_false (by omega)
              have b5n : decide (4294967296 ≤ q) = false := decide_eq_false (by omega)
              obtain ⟨A, hA⟩ : ∃ A : Nat, A = q * Y0 := ⟨_, rfl⟩
              have hAl : A < 18446744073709551616 := by rw [hA]; exact Nat.lt_of_le_of_lt (Nat.mul_le_mul (show q ≤ 4294967295 by omega) (Nat.le_of_lt HD2.out.y0)) (by omega)
              have e72 : IntKind.u64.wrap ((q : Int) * (Y0 : Int)) = (A : Int) := by rw [← Int.natCast_mul, ← hA]; exact wrapU A hAl
              obtain ⟨C, hC⟩ : ∃ C : Nat, C = 4294967296 * r + V0 := ⟨_, rfl⟩
              have hDl := HD2.out.d
              have e76 : IntKind.u64.wrap (IntKind.u64.wrap (4294967296 * (r : Int)) + (V0 : Int)) = (C : Int) := by rw [IntKind.wrap_u64, IntKind.wrap_u64]; omega
              have e76b : IntKind.u64.wrap (4294967296 * (r : Int) + (V0 : Int)) = (C : Int) := by rw [IntKind.wrap_u64]; omega
              by_cases c2 : C < A
              · have b7 : decide ((C : Int) < (A : Int)) = true := decide_eq_true (by omega)
                have b7n : decide (C < A) = true := decide_eq_true (by omega)
                have src : 4294967296 * r + V0 < q * Y0 := by rw [← hA, ← hC]; exact c2
                clear hA hC hDl c2
                obtain ⟨g1, g2, g3, g4⟩ := HI.out.step HD2.out (.inr src)
                have G2 := Aside0.mk g2
                have G3 := Aside0.mk g3
                clear g2 g3
                obtain ⟨p, hp⟩ : ∃ p : Nat, q = p + 1 := ⟨q - 1, by omega⟩
                obtain ⟨t, ht⟩ : ∃ t : Nat, t = r + Y1 := ⟨_, rfl⟩
                have eP : IntKind.u64.wrap ((q : Int) - 1) = (p : Int) := by rw [IntKind.wrap_u64]; omega
                have eT : IntKind.u64.wrap ((r : Int) + (Y1 : Int)) = (t : Int) := by rw [IntKind.wrap_u64]; omega
                rw [← ht, hp, Nat.add_sub_cancel] at G2
                rw [hp, Nat.add_sub_cancel] at G3
                have hpl : p ≤ 4294967296 := by omega
                have hpq : p < q := by omega
                clear hp ht g1 g4 src
                by_cases c3 : 4294967296 ≤ t
                · have b6 : decide ((4294967296 : Int) ≤ (t : Int)) = true := decide_eq_true (by omega)
                  have b6n : decide (4294967296 ≤ t) = true := decide_eq_true (by omega)
                  have hq := HD2.out.done2 G2.out c3 hpl G3.out
                  have HQ2 := Aside0.mk hq
                  clear hq
                  obtain ⟨RES, Z, e124, e124b, e132, hfin⟩ := div_end HD.out HD2.out HQ.out HW.out HQ2.out
                  have HF := Aside0.mk hfin
                  clear hfin
                  go_wp2
                  go_ret2
                  exact ⟨by rw [HF.out.1, HF.out.2, Int.natCast_ediv, Int.natCast_pow]; rfl, 0, rfl⟩
                · have b6 : decide ((4294967296 : Int) ≤ (t : Int)) = false := decide_eq_false (by omega)
                  have b6n : decide (4294967296 ≤ t) = false := decide_eq_false (by omega)
                  have HI2 : Aside0 (DInv Y Y1 W V0 p t) := ⟨⟨G2.out, G3.out, by omega, by omega⟩⟩
                  go_wp2
                  go_roundw
                  case rel => first | exact ⟨rfl, p, t, rfl, rfl, HI2⟩ | exact ⟨trivial, p, t, rfl, rfl, HI2⟩
                  case measure => simp [Proofs.intOf]; omega
              · have b7 : decide ((C : Int) < (A : Int)) = false := decide_eq_false (by omega)
                have b7n : decide (C < A) = false := decide_eq_false (by omega)
                have hq := HI.out.done HD2.out (by omega) (by rw [← hA, ← hC]; exact c2)
                have HQ2 := Aside0.mk hq
                clear hq hA hC hDl c2
                obtain ⟨RES, Z, e124, e124b, e132, hfin⟩ := div_end HD.out HD2.out HQ.out HW.out HQ2.out
                have HF := Aside0.mk hfin
                clear hfin
                go_wp2
                go_ret2
                exact ⟨by rw [HF.out.1, HF.out.2, Int.natCast_ediv, Int.natCast_pow]; rfl, 0, rfl⟩
        · have b6 : decide ((4294967296 : Int) ≤ (t : Int)) = false := decide_eq_false (by omega)
          have b6n : decide (4294967296 ≤ t) = false := decide_eq_false (by omega)
          have HI2 : Aside0 (DInv Y Y1 U V1 p t) := ⟨⟨G2.out, G3.out, by omega, by omega⟩⟩
          go_wp2
          go_roundw
          case rel => first | exact ⟨rfl, p, t, rfl, rfl, HI2⟩ | exact ⟨trivial, p, t, rfl, rfl, HI2⟩
          case measure => simp [Proofs.intOf]; omega
      · have b7 : decide ((C : Int) < (A : Int)) = false := decide_eq_false (by omega)
        have b7n : decide (C < A) = false := decide_eq_false (by omega)
        have hq := HI.out.done HD.out (by omega) (by rw [← hA, ← hC]; exact c2)
        have HQ := Aside0.mk hq
        clear hq hA hC hDl c2
        obtain ⟨W, hW, hWY, e93⟩ := un21 HD.out HQ.out
        have hD2 : DI Y Y1 Y0 W V0 := ⟨HD.out.y, HD.out.y1, HD.out.y1', HD.out.y0, hWY, HV0.out⟩
        obtain ⟨Q2, R2, eQ2, eR2, hST2⟩ := first_guess hD2
        have HW := Aside0.mk hW
        have HD2 := Aside0.mk hD2
        have HST2 := Aside0.mk hST2
        clear hW hD2 hST2 hWY
        go_wp2
        go_loopw [16, 18] (fun vr vq wq => wq = w ∧ ∃ (q r : Nat), vq = .int .u64 q ∧ vr = .int .u64 r ∧ Aside0 (DInv Y Y1 W V0 q r)) (fun _ vq _ => (Proofs.intOf vq).toNat)
        case atStart => exact ⟨rfl, _, _, rfl, rfl, HST2⟩
        case round =>
          obtain ⟨hwr, q, r, rfl, rfl, HI⟩ := hrel
          subst wr
          clear HST2
          have hql := HI.out.le
          have hrl := HI.out.lt
          by_cases c1 : 4294967296 ≤ q
          · have b5 : decide ((4294967296 : Int) ≤ (q : Int)) = true := decide_eq_true (by omega)
            have b5n : decide (4294967296 ≤ q) = true := decide_eq_true (by omega)
            obtain ⟨g1, g2, g3, g4⟩ := HI.out.step HD2.out (.inl c1)
            have G2 := Aside0.mk g2
            have G3 := Aside0.mk g3
            clear g2 g3
            obtain ⟨p, hp⟩ : ∃ p : Nat, q = p + 1 := ⟨q - 1, by omega⟩
            obtain ⟨t, ht⟩ : ∃ t : Nat, t = r + Y1 := ⟨_, rfl⟩
            have eP : IntKind.u64.wrap ((q : Int) - 1) = (p : Int) := by rw [IntKind.wrap_u64]; omega
            have eT : IntKind.u64.wrap ((r : Int) + (Y1 : Int)) = (t : Int) := by rw [IntKind.wrap_u64]; omega
            rw [← ht, hp, Nat.add_sub_cancel] at G2
            rw [hp, Nat.add_sub_cancel] at G3
            have hpl : p ≤ 4294967296 := by omega
            have hpq : p < q := by omega
            clear hp ht g1 g4
            by_cases c3 : 4294967296 ≤ t
            · have b6 : decide ((4294967296 : Int) ≤ (t : Int)) = true := decide_eq_true (by omega)
              have b6n : decide (4294967296 ≤ t) = true := decide_eq_true (by omega)
              have hq := HD2.out.done2 G2.out c3 hpl G3.out
              have HQ2 := Aside0.mk hq
              clear hq
              obtain ⟨RES, Z, e124, e124b, e132, hfin⟩ := div_end HD.out HD2.out HQ.out HW.out HQ2.out
              have HF := Aside0.mk hfin
              clear hfin
              go_wp2
              go_ret2
              exact ⟨by rw [HF.out.1, HF.out.2, Int.natCast_ediv, Int.natCast_pow]; rfl, 0, rfl⟩
            · have b6 : decide ((4294967296 : Int) ≤ (t : Int)) = false := decide_eq_false (by omega)
              have b6n : decide (4294967296 ≤ t) = false := decide_eq_false (by omega)
              have HI2 : Aside0 (DInv Y Y1 W V0 p t) := ⟨⟨G2.out, G3.out, by omega, by omega⟩⟩
              go_wp2
              go_roundw
              case rel => first | exact ⟨rfl, p, t, rfl, rfl, HI2⟩ | exact ⟨trivial, p, t, rfl, rfl, HI2⟩
              case measure => simp [Proofs.intOf]; omega
          · have b5 : decide ((4294967296 : Int) ≤ (q : Int)) = false := decide_eq_false (by omega)
            have b5n : decide (4294967296 ≤ q) = false := decide_eq_false (by omega)
            obtain ⟨A, hA⟩ : ∃ A : Nat, A = q * Y0 := ⟨_, rfl⟩
            have hAl : A < 18446744073709551616 := by rw [hA]; exact Nat.lt_of_le_of_lt (Nat.mul_le_mul (show q ≤ 4294967295 by omega) (Nat.le_of_lt HD2.out.y0)) (by omega)
            have e72 : IntKind.u64.wrap ((q : Int) * (Y0 : Int)) = (A : Int) := by rw [← Int.natCast_mul, ← hA]; exact wrapU A hAl
            obtain ⟨C, hC⟩ : ∃ C : Nat, C = 4294967296 * r + V0 := ⟨_, rfl⟩
            have hDl := HD2.out.d
            have e76 : IntKind.u64.wrap (IntKind.u64.wrap (4294967296 * (r : Int)) + (V0 : Int)) = (C : Int) := by rw [IntKind.wrap_u64, IntKind.wrap_u64]; omega
            have e76b : IntKind.u64.wrap (4294967296 * (r : Int) + (V0 : Int)) = (C : Int) := by rw [IntKind.wrap_u64]; omega
            by_cases c2 : C < A
            · have b7 : decide ((C : Int) < (A : Int)) = true := decide_eq_true (by omega)
              have b7n : decide (C < A) = true := decide_eq_true (by omega)
              have src : 4294967296 * r + V0 < q * Y0 := by rw [← hA, ← hC]; exact c2
              clear hA hC hDl c2
              obtain ⟨g1, g2, g3, g4⟩ := HI.out.step HD2.out (.inr src)
              have G2 := Aside0.mk g2
              have G3 := Aside0.mk g3
              clear g2 g3
              obtain ⟨p, hp⟩ : ∃ p : Nat, q = p + 1 := ⟨q - 1, by omega⟩
              obtain ⟨t, ht⟩ : ∃ t : Nat, t = r + Y1 := ⟨_, rfl⟩
              have eP : IntKind.u64.wrap ((q : Int) - 1) = (p : Int) := by rw [IntKind.wrap_u64]; omega
              have eT : IntKind.u64.wrap ((r : Int) + (Y1 : Int)) = (t : Int) := by rw [IntKind.wrap_u64]; omega
              rw [← ht, hp, Nat.add_sub_cancel] at G2
              rw [hp, Nat.add_sub_cancel] at G3
              have hpl : p ≤ 4294967296 := by omega
              have hpq : p < q := by omega
              clear hp ht g1 g4 src
              by_cases c3 : 4294967296 ≤ t
              · have b6 : decide ((4294967296 : Int) ≤ (t : Int)) = true := decide_eq_true (by omega)
                have b6n : decide (4294967296 ≤ t) = true := decide_eq_true (by omega)
                have hq := HD2.out.done2 G2.out c3 hpl G3.out
                have HQ2 := Aside0.mk hq
                clear hq
                obtain ⟨RES, Z, e124, e124b, e132, hfin⟩ := div_end HD.out HD2.out HQ.out HW.out HQ2.out
                have HF := Aside0.mk hfin
                clear hfin
                go_wp2
                go_ret2
                exact ⟨by rw [HF.out.1, HF.out.2, Int.natCast_ediv, Int.natCast_pow]; rfl, 0, rfl⟩
              · have b6 : decide ((4294967296 : Int) ≤ (t : Int)) = false := decide_eq_false (by omega)
                have b6n : decide (4294967296 ≤ t) = false := decide_eq_false (by omega)
                have HI2 : Aside0 (DInv Y Y1 W V0 p t) := ⟨⟨G2.out, G3.out, by omega, by omega⟩⟩
                go_wp2
                go_roundw
                case rel => first | exact ⟨rfl, p, t, rfl, rfl, HI2⟩ | exact ⟨trivial, p, t, rfl, rfl, HI2⟩
                case measure => simp [Proofs.intOf]; omega
            · have b7 : decide ((C : Int) < (A : Int)) = false := decide_eq_false (by omega)
              have b7n : decide (C < A) = false := decide_eq_false (by omega)
              have hq := HI.out.done HD2.out (by omega) (by rw [← hA, ← hC]; exact c2)
              have HQ2 := Aside0.mk hq
              clear hq hA hC hDl c2
              obtain ⟨RES, Z, e124, e124b, e132, hfin⟩ := div_end HD.out HD2.out HQ.out HW.out HQ2.out
              have HF := Aside0.mk hfin
              clear hfin
              go_wp2
              go_ret2
              exact ⟨by rw [HF.out.1, HF.out.2, Int.natCast_ediv, Int.natCast_pow]; rfl, 0, rfl⟩
end Go.Proofs.Ytbadelcnaeijkaa.Q
end
section
namespace Go.Proofs.Ytbadelcnaeijkaa.Q
open Go.RowKit Go.Proofs.YtbadelcnaeijkaaW.PrintWords Go.Proofs.YtbadelcnaeijkaaW.PrintLast Go.Proofs.YtbadelcnaeijkaaW.PrintMore
attribute [local go_sem] max2_int min2_int max_two min_two max_three min_three max_four min_four
attribute [local go_sem ↓] isSome_setCell
attribute [local go_sem] string_gtr
set_option linter.unusedVariables false
set_option linter.unusedSimpArgs false
set_option maxHeartbeats 8000000 in
set_option maxRecDepth 100000 in
theorem div0_walk (x y : Nat) (hx : x < 18446744073709551616) (hy : y < 18446744073709551616) (hy0 : 0 < y) (w : World) :
    Calls Try.prog 33 #[.int .u64 0, .int .u64 x, .int .u64 y] w fun e w' => e = .returned (.tuple #[.int .u64 ((x / y : Nat) : Int), .int .u64 ((x % y : Nat) : Int)]) ∧ ∃ m, w' = w.drewN m := by
  have b1 : ((y : Int) == 0) = false := beq_eq_false_iff_ne.2 (by omega)
  have b2 : decide ((y : Int) ≤ 0) = false := decide_eq_false (by omega)
  have eq : Aside0 (IntKind.u64.wrap ((x : Int) / y) = ((x / y : Nat) : Int)) := ⟨by
    rw [← Int.natCast_ediv]
    have := Nat.div_le_self x y
    generalize x / y = q at *
    rw [IntKind.wrap_u64]
    omega⟩
  go_enter Try.func33, Try.ntmps33
  go_wp2
  go_region
  all_goals go_wp2
  all_goals go_ret2
  all_goals refine ⟨?_, 1, rfl⟩
  all_goals rw [eq.out, ← Int.natCast_emod]
  all_goals rfl
end Go.Proofs.Ytbadelcnaeijkaa.Q
end
section
namespace Go.Proofs
open Go.Shelf
def Try.lays134_ren : Go.Shelf.Ren := ⟨fun | 134 => 44 | 129 => 50 | n => n, fun | 53 => 63 | 3 => 3 | 4 => 4 | 46 => 85 | 5 => 5 | 9 => 9 | n => n, fun | n => n⟩
theorem Try.lays134 : Go.Proofs.Lays.n134 Try.prog Try.lays134_ren := {
  mixed := by kernel_rfl
  f129 := Try.func50.trans (congrArg some (by kernel_rfl))
  f134 := Try.func44.trans (congrArg some (by kernel_rfl))
  t3 := Try.underlying3
  a3 := Try.isAgg3
  z3 := Try.sizeOf3
  v3 := Try.zeroValue3
  t4 := Try.underlying4
  a4 := Try.isAgg4
  z4 := Try.sizeOf4
  v4 := Try.zeroValue4
  t5 := Try.underlying5
  a5 := Try.isAgg5
  z5 := Try.sizeOf5
  v5 := Try.zeroValue5
  t9 := Try.underlying9
  a9 := Try.isAgg9
  z9 := Try.sizeOf9
  v9 := Try.zeroValue9
  t46 := Try.underlying85
  a46 := Try.isAgg85
  z46 := Try.sizeOf85
  v46 := Try.zeroValue85
  t53 := Try.underlying63
  a53 := Try.isAgg63
  z53 := Try.sizeOf63
  v53 := Try.zeroValue63 }
theorem Try.bits_LeadingZeros64 (x : Int) (w : World) (h0 : 0 ≤ x) (h1 : x ≤ 18446744073709551615) :
    Calls Try.prog 44 #[.int .u64 x] w fun e w' => e = .returned (.int .i64 (64 - (Lib.bitLen x.toNat : Int))) ∧ w' = w := Any.bits_LeadingZeros64 Try.lays134 x w h0 h1
end Go.Proofs
end
section
namespace Go.Proofs.Ytbadelcnaeijkaa.Q
open Go.RowKit Go.Proofs.YtbadelcnaeijkaaW.PrintWords Go.Proofs.YtbadelcnaeijkaaW.PrintLast Go.Proofs.YtbadelcnaeijkaaW.PrintMore
attribute [local go_sem] max2_int min2_int max_two min_two max_three min_three max_four min_four
attribute [local go_sem ↓] isSome_setCell
attribute [local go_sem] string_gtr
set_option linter.unusedVariables false
set_option linter.unusedSimpArgs false
theorem lz_walk (y s : Nat) (hs : s = 64 - Lib.bitLen y) (hb : Lib.bitLen y ≤ 64) (hy64 : y < 18446744073709551616) (W : World) : Calls Try.prog 44 #[.int .u64 y] W fun e w' => e = .returned (.int .i64 (s : Int)) ∧ w' = W := by
  have := Try.bits_LeadingZeros64 (y : Int) W (by omega) (by omega)
  rw [Int.toNat_natCast] at this
  refine this.mono fun e w' h => ⟨?_, h.2⟩
  rw [h.1, hs]
  congr 2
  omega
theorem div_any (hi lo y : Nat) (hy : hi < y) (hlo : lo < 18446744073709551616) (hy64 : y < 18446744073709551616) (W : World) :
    Calls Try.prog 33 #[.int .u64 hi, .int .u64 lo, .int .u64 y] W fun e w' => e = .returned (.tuple #[.int .u64 (((hi * 18446744073709551616 + lo) / y : Nat) : Int), .int .u64 (((hi * 18446744073709551616 + lo) % y : Nat) : Int)]) ∧ ∃ m, w' = W.drewN m := by
  by_cases h0 : hi = 0
  · subst h0
    rw [Nat.zero_mul, Nat.zero_add]
    exact div0_walk lo y hlo hy64 hy W
  have hb := Lib.bitLenAux_bounds 64 y hy64 (by omega)
  have hb64 : Lib.bitLen y ≤ 64 := Lib.bitLen_le y 64 (by omega) hy64
  have hbb : 1 ≤ Lib.bitLen y ∧ 2 ^ (Lib.bitLen y - 1) ≤ y ∧ y < 2 ^ Lib.bitLen y := hb
  obtain ⟨s, hs⟩ : ∃ s, s = 64 - Lib.bitLen y := ⟨_, rfl⟩
  have hLZ := fun W => lz_walk y s hs hb64 hy64 W
  have hp : 0 < 2 ^ s := Nat.pow_pos (by omega)
  have hs64 : s < 64 := by omega
  have hYl : 9223372036854775808 ≤ y * 2 ^ s := by
    have h1 : 2 ^ (Lib.bitLen y - 1) * 2 ^ s ≤ y * 2 ^ s := Nat.mul_le_mul_right _ hbb.2.1
    rw [← Nat.pow_add, show Lib.bitLen y - 1 + s = 63 by omega] at h1
    omega
  have hYu : y * 2 ^ s < 18446744073709551616 := by
    have h1 : y * 2 ^ s < 2 ^ Lib.bitLen y * 2 ^ s := Nat.mul_lt_mul_of_pos_right hbb.2.2 hp
    rw [← Nat.pow_add, show Lib.bitLen y + s = 64 by omega] at h1
    omega
  clear hb hbb
  have hl : lo / 2 ^ (64 - s) < 2 ^ s := by
    refine Nat.div_lt_of_lt_mul ?_
    rw [← Nat.pow_add, show 64 - s + s = 64 by omega]
    exact hlo
  have hUY : hi * 2 ^ s + lo / 2 ^ (64 - s) < y * 2 ^ s := by
    have h1 : (hi + 1) * 2 ^ s ≤ y * 2 ^ s := Nat.mul_le_mul_right _ hy
    rw [Nat.add_mul, Nat.one_mul] at h1
    omega
  have eV : lo * 2 ^ s = lo / 2 ^ (64 - s) * 18446744073709551616 + lo * 2 ^ s % 18446744073709551616 := by
    have h1 : lo * 2 ^ s / 18446744073709551616 = lo / 2 ^ (64 - s) := by
      rw [show 18446744073709551616 = 2 ^ (64 - s) * 2 ^ s by rw [← Nat.pow_add, show 64 - s + s = 64 by omega]]
      exact Nat.mul_div_mul_right _ _ hp
    have h2 := Nat.div_add_mod (lo * 2 ^ s) 18446744073709551616
    rw [h1] at h2
    omega
  have eU := or_parts hi lo s hs64 (by omega) hlo (by omega)
  have eW : IntKind.u64.wrap ((hi : Int) * 2 ^ s) = ((hi * 2 ^ s : Nat) : Int) := by rw [castPow]; exact wrapU _ (by omega)
  have hY0 : y * 2 ^ s % 4294967296 < 4294967296 := Nat.mod_lt _ (by omega)
  have key := divg_walk hi lo y s (y * 2 ^ s) (y * 2 ^ s / 4294967296) (y * 2 ^ s % 4294967296) (hi * 2 ^ s + lo / 2 ^ (64 - s)) (lo * 2 ^ s % 18446744073709551616) (lo * 2 ^ s % 18446744073709551616 / 4294967296) (lo * 2 ^ s % 18446744073709551616 % 4294967296) hLZ (by omega) hy hs64
    (by rw [castPow]; exact wrapU _ hYu) (by omega) (Mul64.maskN _ hYu)
    (by rw [eW, ← eU]; congr 1) (by rw [castPow]; exact wrapUm _) (by omega) (Mul64.maskN _ (Nat.mod_lt _ (by omega)))
    ⟨by omega, by omega, by omega, hY0, hUY, by omega⟩ (Nat.mod_lt _ (by omega)) W
  refine key.mono fun e w' h => ⟨?_, h.2⟩
  have hn : (hi * 18446744073709551616 + lo) * 2 ^ s = ((hi * 2 ^ s + lo / 2 ^ (64 - s)) * 4294967296 + lo * 2 ^ s % 18446744073709551616 / 4294967296) * 4294967296 + lo * 2 ^ s % 18446744073709551616 % 4294967296 := by
    have h1 : (hi * 18446744073709551616 + lo) * 2 ^ s = hi * 2 ^ s * 18446744073709551616 + lo * 2 ^ s := by
      rw [Nat.add_mul, Nat.mul_assoc, Nat.mul_comm 18446744073709551616, ← Nat.mul_assoc]
    rw [h1]
    generalize hi * 2 ^ s = A at *
    generalize lo * 2 ^ s = B at *
    generalize lo / 2 ^ (64 - s) = C at *
    omega
  obtain ⟨r1, r2⟩ := div_two (Y := y * 2 ^ s) rfl (by omega) hn rfl rfl
  rw [h.1, ← r1, ← r2]
end Go.Proofs.Ytbadelcnaeijkaa.Q
end
