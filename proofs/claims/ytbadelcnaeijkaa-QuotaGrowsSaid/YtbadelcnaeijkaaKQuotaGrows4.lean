import Derived.Test.YtbadelcnaeijkaaKQuotaGrows3
set_option linter.unusedVariables false
set_option linter.unusedSimpArgs false
section
namespace Go.Proofs.Ytbadelcnaeijkaa.Q
open Go.RowKit Go.Proofs.YtbadelcnaeijkaaW.PrintWords Go.Proofs.YtbadelcnaeijkaaW.PrintLast Go.Proofs.YtbadelcnaeijkaaW.PrintMore
attribute [local go_sem] max2_int min2_int max_two min_two max_three min_three max_four min_four
attribute [local go_sem ↓] isSome_setCell
attribute [local go_sem] string_gtr
set_option linter.unusedVariables false
set_option linter.unusedSimpArgs false
def num (x : Int) : Bool := decide (0 ≤ x ∧ x ≤ 1125899906842624)
theorem number_fn (x : Int) (w : World) : Calls Try.prog 27 #[.int .i64 x] w fun e w' => e = .returned (.bool (num x)) ∧ w' = w := by
 by_cases h1 : 0 ≤ x
 ·
  by_cases h2 : x ≤ 1125899906842624
  ·
   have hn : num x = true := de_ ⟨h1, h2⟩; have b1 : decide (0 ≤ x) = true := de_ h1; have b2 : decide (x ≤ 1125899906842624) = true := de_ h2; rw [hn]; clear hn h1 h2; go_enter Try.func27, Try.ntmps27; go_wp2; go_ret; exact ⟨rfl, rfl⟩
  ·
   have hn : num x = false := df_ (fun h => h2 h.2); have b1 : decide (0 ≤ x) = true := de_ h1; have b2 : decide (x ≤ 1125899906842624) = false := df_ h2; rw [hn]; clear hn h1 h2; go_enter Try.func27, Try.ntmps27; go_wp2; go_ret; exact ⟨rfl, rfl⟩
 ·
  have hn : num x = false := df_ (fun h => h1 h.1); have b1 : decide (0 ≤ x) = false := df_ h1; rw [hn]; clear hn h1; go_enter Try.func27, Try.ntmps27; go_wp2; go_ret; exact ⟨rfl, rfl⟩
def used (o : ByteArray) (l : List S66) : Int := (l.map fun x => if x.f3 = o ∧ num x.f5 = true then x.f5 else 0).sum
def named (o : ByteArray) (l : List S66) : Bool := l.any fun x => decide (x.f3 = o) && num x.f5
theorem used_step (o : ByteArray) (l : List S66) (i : Nat) (h : i < l.length) : used o (l.take (i + 1)) = used o (l.take i) + (if l[i].f3 = o ∧ num l[i].f5 = true then l[i].f5 else 0) := by
 rw [List.take_add_one, List.getElem?_eq_getElem h, used, List.map_append, List.sum_append]
 simp [used, -List.map_take]
theorem named_step (o : ByteArray) (l : List S66) (i : Nat) (h : i < l.length) : named o (l.take (i + 1)) = (named o (l.take i) || (decide (l[i].f3 = o) && num l[i].f5)) := by
 rw [List.take_add_one, List.getElem?_eq_getElem h, named, List.any_append]
 simp [named]
theorem num_le {x : Int} (h : num x = true) : 0 ≤ x ∧ x ≤ 1125899906842624 := ot_ h
theorem used_bound (o : ByteArray) : ∀ l : List S66, 0 ≤ used o l ∧ used o l ≤ l.length * 1125899906842624
 | [] => ⟨Int.le_refl _, Int.le_refl _⟩
 | x :: l => by
  have ih := used_bound o l; have e : used o (x :: l) = (if x.f3 = o ∧ num x.f5 = true then x.f5 else 0) + used o l := by simp [used]
  rw [e, List.length_cons]
  by_cases h : x.f3 = o ∧ num x.f5 = true
  ·
   rw [if_pos h]; have := num_le h.2
   omega
  ·
   rw [if_neg h]
   omega
def MapIs (w : World) (b n : Nat) (g : ByteArray → Int) (hs : ByteArray → Bool) : Prop :=
 ∃ D : DataW Unit, w.ownsMap Try.prog 9 (plainElem Try.prog 3) b n D ∧ Maps.IsMap D ∧ (∀ s : ByteArray, D.atKey (.string s.data.toList) (.lit (.int .i64 0)) = .lit (.int .i64 (g s))) ∧ ∀ s : ByteArray, Maps.has D (.string s.data.toList) = hs s
theorem key9 {s : ByteArray} (hs : s.size ≤ 140737488351232) : keyOf Try.prog 9 (.string s) = some (.string s.data.toList) := WideMaps.keyOf_string_mk Try.underlying9 (by unfold maxLen; omega)
theorem keyed9 : Maps.Keyed Try.prog 9 := Maps.string_keyed Try.underlying9
theorem zero3 (w : World) : (zeroValue 3).run Try.prog w = .ok (.int .i64 0) w := by kernel_rfl
theorem MapIs.below {w w' : World} {b n : Nat} {g : ByteArray → Int} {hs : ByteArray → Bool} (h : MapIs w b n g hs) (hb : Below (b + 1) w w') : MapIs w' b n g hs := by
 obtain ⟨D, ⟨es, clock, h1, h2⟩, h3⟩ := h; exact ⟨D, ⟨es, clock, (hb.block b (Nat.lt_succ_self b)).trans h1, h2⟩, h3⟩
theorem MapIs.lt {w : World} {b n : Nat} {g : ByteArray → Int} {hs : ByteArray → Bool} (h : MapIs w b n g hs) : b < w.heap.size := by
 obtain ⟨D, h1, _⟩ := h; exact h1.lt
theorem MapIs.made (w : World) : MapIs (w.alloc (.map #[] 0)) w.heap.size 0 (fun _ => 0) (fun _ => false) :=
 ⟨.map [], World.ownsMap_made _ _ _ _, ⟨_, rfl⟩, fun _ => rfl, fun _ => rfl⟩
theorem MapIs.look {w : World} {b n : Nat} {g : ByteArray → Int} {hs : ByteArray → Bool} (h : MapIs w b n g hs) (s : ByteArray) (hs : s.size ≤ 140737488351232) : (Instr.lookup 59 (.map (some b)) (.string s) false).run Try.prog w = .ok (.int .i64 (g s)) w := by
 obtain ⟨D, h1, _, h3, _⟩ := h; obtain ⟨c, hrun, hat, _⟩ := h1.lookup_int keyed9 Try.underlying59 Try.underlying3 (zero3 _) (key9 hs); rw [h3 s] at hat
 have e : g s = c := by
  exact (Lit.int.inj (DataW.lit.inj hat)).2
 rw [e]; exact hrun
theorem key_ne {a b : ByteArray} (h : a ≠ b) : (Lit.string a.data.toList) ≠ .string b.data.toList := by
 intro e; injection e with e
 exact h (ByteArray.ext (Array.toList_inj.1 e))
theorem MapIs.put {w1 : World} {b n : Nat} {g : ByteArray → Int} {hs : ByteArray → Bool} {D : DataW Unit} (hm : Maps.IsMap D) (h3 : ∀ s : ByteArray, D.atKey (.string s.data.toList) (.lit (.int .i64 0)) = .lit (.int .i64 (g s))) (h4 : ∀ s : ByteArray, Maps.has D (.string s.data.toList) = hs s) (s : ByteArray) (v : Int)
  (h : w1.ownsMap Try.prog 9 (plainElem Try.prog 3) b n (D.put (.string s.data.toList) (.lit (.int .i64 v)))) : MapIs w1 b n (fun x => if x = s then v else g x) (fun x => decide (x = s) || hs x) := by
 refine ⟨_, h, hm.put _ _, fun x => ?_, fun x => ?_⟩
 ·
  by_cases e : x = s
  ·
   subst e; rw [Maps.atKey_put_same hm (by simp [WideAt.IsKeyLit])]; simp
  ·
   rw [Maps.atKey_put_other (key_ne e), h3]; simp [e]
 ·
  by_cases e : x = s
  ·
   subst e; rw [Maps.has_put_same hm (by simp [WideAt.IsKeyLit])]
   simp
  ·
   rw [Maps.has_put_other (key_ne e), h4]
   simp [e]
theorem wpMap_put (w : World) {ops : Array Oper} {rest : List Oper} {o : Oper} {a : Act} {Q : Exit → Act → World → Prop}
  (hg : o.guard = none) (m x v : Operand) (hop : o.op = Op.mapUpdate 59 m x v) (b n : Nat) (g : ByteArray → Int) (hs : ByteArray → Bool)
  (hm : a.eval m = .map (some b)) (hown : MapIs w b n g hs) (hn : n < maxLen) (s : ByteArray) (hsz : s.size ≤ 140737488351232) (c : Int) (hx : a.eval x = .string s) (hv : a.eval v = .int .i64 c) (hw : (Lit.int .i64 c).wf = true)
  (hK : ∀ w', MapIs w' b (n + 1) (fun x => if x = s then c else g x) (fun x => decide (x = s) || hs x) → w.grownBy w' (some b) → wpList Try.prog ops Q rest (a.put o.dst undef) w') :
  wpList Try.prog ops Q (o :: rest) a w := by
 obtain ⟨D, h1, h2, h3, h4⟩ := hown; exact wpList_mapUpdate_own w hg m x v 59 hop 9 3 keyed9 Try.underlying59 _ b n D hm h1 hn _ _ _ hx hv (key9 hsz) _ [] (plainElem_int Try.underlying3 hw) (fun w' r1 r2 => hK w' (MapIs.put h2 h3 h4 s c r1) r2)
theorem MapIs.update {w : World} {b n : Nat} {g : ByteArray → Int} {hs : ByteArray → Bool} (hown : MapIs w b n g hs) (hn : n < maxLen) (s : ByteArray) (hsz : s.size ≤ 140737488351232) (c : Int) (hw : (Lit.int .i64 c).wf = true) :
  ∃ w', (Instr.mapUpdate 59 (.map (some b)) (.string s) (.int .i64 c)).run Try.prog w = .ok () w' ∧ MapIs w' b (n + 1) (fun x => if x = s then c else g x) (fun x => decide (x = s) || hs x) ∧ w.grownBy w' (some b) := by
 obtain ⟨D, h1, h2, h3, h4⟩ := hown; obtain ⟨w', r1, r2, r3⟩ := h1.update keyed9 Try.underlying59 hn (key9 hsz) (plainElem_int Try.underlying3 hw); exact ⟨w', r1, MapIs.put h2 h3 h4 s c r2, r3⟩
theorem wp_look {w : World} {ops : Array Oper} {rest : List Oper} {o : Oper} {a : Act} {Q : Exit → Act → World → Prop}
  (hg : o.guard = none) (m x : Operand) (hop : o.op = Op.lookup 59 m x false) (b n : Nat) (g : ByteArray → Int) (hs : ByteArray → Bool)
  (hm : a.eval m = .map (some b)) (hown : MapIs w b n g hs) (s : ByteArray) (hsz : s.size ≤ 140737488351232) (hx : a.eval x = .string s)
  (hK : wpList Try.prog ops Q rest (a.put o.dst (.int .i64 (g s))) w) : wpList Try.prog ops Q (o :: rest) a w := by
 refine Kd.event_run hg ?_ hK; have hr := hown.look s hsz
 simp [execOp, hop, hm, hx, hr, Result.andThen]
theorem mapIs_ext {w : World} {b n : Nat} {g g' : ByteArray → Int} {hs hs' : ByteArray → Bool} (h : MapIs w b n g hs) (e1 : ∀ s, g s = g' s) (e2 : ∀ s, hs s = hs' s) : MapIs w b n g' hs' := by
 obtain rfl : g = g' := funext e1; obtain rfl : hs = hs' := funext e2; exact h
theorem MapIs.mono {w : World} {b n n' : Nat} {g : ByteArray → Int} {hs : ByteArray → Bool} (h : MapIs w b n g hs) (hn : n ≤ n') : MapIs w b n' g hs := by
 obtain ⟨D, h1, h2⟩ := h; exact ⟨D, h1.mono hn, h2⟩
theorem below_setG {B : Nat} {w W : World} {g j : Nat} {v : Value} (h : Below B w W) (hg : B ≤ g) : Below B w (W.setCell ⟨g, j, none⟩ v) := h.setCell hg _
theorem below_grow {w W W' : World} {b : Nat} (h : Below w.heap.size w W) (hg : W.grownBy W' (some b)) (hb : w.heap.size ≤ b) : Below w.heap.size w W' := h.grown hg h.size (fun k hk => by cases hk; exact hb)
theorem wrap_lit (x : Int) (h0 : 0 ≤ x) (h1 : x ≤ 4611686018427387904) : wrap64 x = x ∧ (Lit.int .i64 x).wf = true := by
 have e : wrap64 x = x := by unfold wrap64; omega
 exact ⟨e, e ▸ wrap64_wf x⟩
set_option maxRecDepth 100000 in
set_option maxHeartbeats 8000000 in
theorem totals_fn (A0 : Option Addr) (c0 : Nat) (l0 : List S66) (w : World) (hr0 : Kd.C k66 w A0 l0.length l0) (hl : l0.length ≤ 1000) (hz : ∀ x ∈ l0, x.f3.size ≤ 140737488351232) :
  Calls Try.prog 29 #[.slice A0 l0.length c0] w fun e w' => ∃ b, e = .returned (.map (some b)) ∧ w.heap.size ≤ b ∧ MapIs w' b l0.length (fun s => used s l0) (fun s => named s l0) ∧ Below w.heap.size w w' := by
 have hmm := @run_makeMap Try.prog; have hu66 := Try.underlying66; have HR0 := am_ hr0; have HL := am_ hl; have HZ := am_ hz; clear hr0 hl hz; go_enter Try.func29, Try.ntmps29; go_wp2
 go_loopg [9] l0.length (fun kq v9 w' => ∃ i : Nat, v9 = .int .i64 (i : Int) ∧ Aside0 (i + kq = l0.length) ∧ Aside0 (MapIs w' w.heap.size i (fun s => used s (l0.take i)) (fun s => named s (l0.take i))) ∧ Aside0 (Below w.heap.size w w'))
 case atStart => exact ⟨0, rfl, ⟨by omega⟩, ⟨MapIs.made w⟩, ⟨(Below.refl _ _).alloc (Nat.le_refl _) _⟩⟩
 case round =>
  obtain ⟨i, rfl, HN, HM, HB⟩ := hrel; have hl2 := HL.out
  by_cases c2 : i < l0.length
  ·
   have c2b0 : decide ((i : Int) < (l0.length : Int)) = true := de_ (by omega); have c2b1 : decide (i < l0.length) = true := de_ c2; have p1 : 0 ≤ (i : Int) := by omega
   have q1 : (i : Int) < (l0.length : Int) := by omega
   obtain ⟨ad1, A10, c10, e1, hx0, hx1, hx2, hx3, hx4, hx5, hx6, hx7, hx8, hx9, hx10, hxl, hxi⟩ := at_T66 HR0.out (i : Int) p1 q1; cases e1; replace hx0 := (HB.out.cell (bk_ w _ hx0)).trans hx0; replace hx1 := (HB.out.cell (bk_ w _ hx1)).trans hx1; replace hx2 := (HB.out.cell (bk_ w _ hx2)).trans hx2; replace hx3 := (HB.out.cell (bk_ w _ hx3)).trans hx3; replace hx4 := (HB.out.cell (bk_ w _ hx4)).trans hx4; replace hx5 := (HB.out.cell (bk_ w _ hx5)).trans hx5; replace hx6 := (HB.out.cell (bk_ w _ hx6)).trans hx6; replace hx7 := (HB.out.cell (bk_ w _ hx7)).trans hx7; replace hx8 := (HB.out.cell (bk_ w _ hx8)).trans hx8; replace hx9 := (HB.out.cell (bk_ w _ hx9)).trans hx9; replace hx10 := (HB.out.cell (bk_ w _ hx10)).trans hx10; rw [Int.toNat_natCast] at hx0 hx1 hx2 hx3 hx4 hx5 hx6 hx7 hx8 hx9 hx10
   have hrd : rd_T66 l0 (i : Int) = l0[i]'c2 := by
    unfold rd_T66
    rw [Int.toNat_natCast, List.getD_eq_getElem?_getD, List.getElem?_eq_getElem c2]; rfl
   rw [hrd] at hx0 hx1 hx2 hx3 hx4 hx5 hx6 hx7 hx8 hx9 hx10; have HU := am_ (fun s => used_step s l0 i c2); have HNM := am_ (fun s => named_step s l0 i c2); have HZI := am_ (HZ.out _ (List.getElem_mem c2)); have HUB := am_ (fun s => used_bound s (l0.take i)); have HTL := am_ (show (l0.take i).length = i by rw [List.length_take]; omega); clear hrd hxl hxi
   have hw : IntKind.i64.wrap ((i : Int) + 1) = ((i + 1 : Nat) : Int) := by
    rw [i64_w]
    unfold wrap64
    omega
   generalize l0[i]'c2 = x at *; replace p1 := eq_true p1; replace q1 := eq_true q1; clear hl2; have HF := number_fn x.f5; have HLT := am_ (show w.heap.size + 1 ≤ wr.heap.size from HM.out.lt); have HLW := am_ (Nat.le_of_lt HM.out.lt); have HNI := am_ (show i < maxLen by have := HL.out; unfold maxLen; omega)
   by_cases c3 : num x.f5 = true
   ·
    have HWB := am_ (wrap_lit (used x.f3 (l0.take i) + x.f5) (by have := HUB.out x.f3; have := num_le c3; omega) (by have := HUB.out x.f3; have := num_le c3; have := HL.out; rw [HTL.out] at *; omega)); have HW := am_ HWB.out.2; have hws : wrap64 (used x.f3 (l0.take i) + x.f5) = used x.f3 (l0.take i) + x.f5 := HWB.out.1; have hws2 : IntKind.i64.wrap (used x.f3 (l0.take i) + x.f5) = used x.f3 (l0.take i) + x.f5 := by rw [i64_w, hws]
    rw [c3] at HF; have H3 := am_ c3; clear c3
    go_wp2_with (first | ((with_reducible refine gate_dst (N := 5) rfl ?_); (try (refine gate_guard (by rfl) ?_; dsimp only)); refine box_event ?hg (N := 5) ?hd (cs := #[.int .i64 0, .int .i64 0, .string ⟨#[]⟩, .string ⟨#[]⟩, .string ⟨#[]⟩, .int .i64 0, .int .u32 0, .int .u64 0, .int .i64 0, .int .i64 0, .slice none 0 0]) (t := 66) ?hr ?_; (case hd => rfl); (case hg => rfl); (case hr => first | (go_simp; done) | (go_simp; rfl)); intro gb hg w8 hbox hb; have HB8 := am_ hb; have BK := am_ hbox; have GE := am_ (show w.heap.size + 1 ≤ gb by rw [hg]; exact HLT.out); have GW := am_ (show w.heap.size ≤ gb by rw [hg]; exact Nat.le_of_lt HLT.out); clear hb hbox hg; have hcz_0 : w8.cell? ⟨gb, 0, none⟩ = some (.int .i64 0) := (bc_ BK.out 0).trans rfl; have hfz_0 := bf_ BK.out 0; have hcz_1 : w8.cell? ⟨gb, 1, none⟩ = some (.int .i64 0) := (bc_ BK.out 1).trans rfl; have hfz_1 := bf_ BK.out 1; have hcz_2 : w8.cell? ⟨gb, 2, none⟩ = some (.string ⟨#[]⟩) := (bc_ BK.out 2).trans rfl; have hfz_2 := bf_ BK.out 2; have hcz_3 : w8.cell? ⟨gb, 3, none⟩ = some (.string ⟨#[]⟩) := (bc_ BK.out 3).trans rfl; have hfz_3 := bf_ BK.out 3; have hcz_4 : w8.cell? ⟨gb, 4, none⟩ = some (.string ⟨#[]⟩) := (bc_ BK.out 4).trans rfl; have hfz_4 := bf_ BK.out 4; have hcz_5 : w8.cell? ⟨gb, 5, none⟩ = some (.int .i64 0) := (bc_ BK.out 5).trans rfl; have hfz_5 := bf_ BK.out 5; have hcz_6 : w8.cell? ⟨gb, 6, none⟩ = some (.int .u32 0) := (bc_ BK.out 6).trans rfl; have hfz_6 := bf_ BK.out 6; have hcz_7 : w8.cell? ⟨gb, 7, none⟩ = some (.int .u64 0) := (bc_ BK.out 7).trans rfl; have hfz_7 := bf_ BK.out 7; have hcz_8 : w8.cell? ⟨gb, 8, none⟩ = some (.int .i64 0) := (bc_ BK.out 8).trans rfl; have hfz_8 := bf_ BK.out 8; have hcz_9 : w8.cell? ⟨gb, 9, none⟩ = some (.int .i64 0) := (bc_ BK.out 9).trans rfl; have hfz_9 := bf_ BK.out 9; have hcz_10 : w8.cell? ⟨gb, 10, none⟩ = some (.slice none 0 0) := (bc_ BK.out 10).trans rfl; have hfz_10 := bf_ BK.out 10) | (go_at_call 27; refine (HF _).mono ?_; rintro e w9 ⟨rfl, rfl⟩) | ((with_reducible refine gate_dst (N := 19) rfl ?_); refine wp_look ?hg (Operand.tmp 16) (Operand.tmp 18) ?hop w.heap.size i (fun s => used s (l0.take i)) (fun s => named s (l0.take i)) ?hm ?own x.f3 HZI.out ?hx ?_; (case hop => rfl); (case hm => first | (go_simp; done) | (go_simp; rfl)); (case own => exact HM.out.below (by repeat (with_reducible first | exact HB8.out.mono HLT.out | refine below_setG ?_ GE.out))); (case hx => first | (go_simp; done) | (go_simp; rfl)); (case hg => rfl)) | (at_mapUpdate; refine wpMap_put _ ?hg (Operand.tmp 16) (Operand.tmp 18) (Operand.tmp 22) ?hop w.heap.size i (fun s => used s (l0.take i)) (fun s => named s (l0.take i)) ?hm ?own HNI.out x.f3 HZI.out (used x.f3 (l0.take i) + x.f5) ?hx ?hv HW.out ?_; (case hg => rfl); (case hop => rfl); (case hm => first | (go_simp; done) | (go_simp; rfl)); (case own => exact HM.out.below (by repeat (with_reducible first | exact HB8.out.mono HLT.out | refine below_setG ?_ GE.out))); (case hx => first | (go_simp; done) | (go_simp; rfl)); (case hv => first | (go_simp; done) | (go_simp; rfl)); intro w9 hm9 hg9; have HM9 := am_ hm9; have HG9 := am_ hg9; clear hm9 hg9))
    go_roundg (l0.length - (i + 1))
    case measure => have := HN.out; omega
    case rel =>
     refine ⟨i + 1, by simp, ⟨by have := HN.out; omega⟩, ⟨?_⟩, ⟨?_⟩⟩
     ·
      refine mapIs_ext (HM9.out.below ?_) (fun s => ?_) (fun s => ?_)
      ·
       exact Below.refl _ _
      ·
       rw [HU.out s]
       by_cases e : s = x.f3
       ·
        subst e; rw [if_pos rfl, if_pos ⟨rfl, H3.out⟩]
       ·
        rw [if_neg e, if_neg (fun h => e h.1.symm), Int.add_zero]
      ·
       rw [HNM.out s, H3.out, Bool.and_true, Bool.or_comm]
       congr 1
       exact decide_eq_decide.2 ⟨Eq.symm, Eq.symm⟩
     ·
      refine below_grow (b := w.heap.size) ?_ HG9.out (Nat.le_refl _); refine HB.out.trans ?_
      repeat (with_reducible first | exact HB8.out.mono HLW.out | refine below_setG ?_ GW.out)
   ·
    have H3 := am_ c3; replace c3 := Bool.eq_false_iff.mpr c3; rw [c3] at HF; clear c3
    go_wp2_with (first | ((with_reducible refine gate_dst (N := 5) rfl ?_); (try (refine gate_guard (by rfl) ?_; dsimp only)); refine box_event ?hg (N := 5) ?hd (cs := #[.int .i64 0, .int .i64 0, .string ⟨#[]⟩, .string ⟨#[]⟩, .string ⟨#[]⟩, .int .i64 0, .int .u32 0, .int .u64 0, .int .i64 0, .int .i64 0, .slice none 0 0]) (t := 66) ?hr ?_; (case hd => rfl); (case hg => rfl); (case hr => first | (go_simp; done) | (go_simp; rfl)); intro gb hg w8 hbox hb; have HB8 := am_ hb; have BK := am_ hbox; have GE := am_ (show w.heap.size + 1 ≤ gb by rw [hg]; exact HLT.out); have GW := am_ (show w.heap.size ≤ gb by rw [hg]; exact Nat.le_of_lt HLT.out); clear hb hbox hg; have hcz_0 : w8.cell? ⟨gb, 0, none⟩ = some (.int .i64 0) := (bc_ BK.out 0).trans rfl; have hfz_0 := bf_ BK.out 0; have hcz_1 : w8.cell? ⟨gb, 1, none⟩ = some (.int .i64 0) := (bc_ BK.out 1).trans rfl; have hfz_1 := bf_ BK.out 1; have hcz_2 : w8.cell? ⟨gb, 2, none⟩ = some (.string ⟨#[]⟩) := (bc_ BK.out 2).trans rfl; have hfz_2 := bf_ BK.out 2; have hcz_3 : w8.cell? ⟨gb, 3, none⟩ = some (.string ⟨#[]⟩) := (bc_ BK.out 3).trans rfl; have hfz_3 := bf_ BK.out 3; have hcz_4 : w8.cell? ⟨gb, 4, none⟩ = some (.string ⟨#[]⟩) := (bc_ BK.out 4).trans rfl; have hfz_4 := bf_ BK.out 4; have hcz_5 : w8.cell? ⟨gb, 5, none⟩ = some (.int .i64 0) := (bc_ BK.out 5).trans rfl; have hfz_5 := bf_ BK.out 5; have hcz_6 : w8.cell? ⟨gb, 6, none⟩ = some (.int .u32 0) := (bc_ BK.out 6).trans rfl; have hfz_6 := bf_ BK.out 6; have hcz_7 : w8.cell? ⟨gb, 7, none⟩ = some (.int .u64 0) := (bc_ BK.out 7).trans rfl; have hfz_7 := bf_ BK.out 7; have hcz_8 : w8.cell? ⟨gb, 8, none⟩ = some (.int .i64 0) := (bc_ BK.out 8).trans rfl; have hfz_8 := bf_ BK.out 8; have hcz_9 : w8.cell? ⟨gb, 9, none⟩ = some (.int .i64 0) := (bc_ BK.out 9).trans rfl; have hfz_9 := bf_ BK.out 9; have hcz_10 : w8.cell? ⟨gb, 10, none⟩ = some (.slice none 0 0) := (bc_ BK.out 10).trans rfl; have hfz_10 := bf_ BK.out 10) | (go_at_call 27; refine (HF _).mono ?_; rintro e w9 ⟨rfl, rfl⟩))
    go_roundg (l0.length - (i + 1))
    case measure => have := HN.out; omega
    case rel =>
     refine ⟨i + 1, by simp, ⟨by have := HN.out; omega⟩, ⟨?_⟩, ⟨?_⟩⟩
     ·
      refine mapIs_ext ((HM.out.mono (Nat.le_succ i)).below ?_) (fun s => ?_) (fun s => ?_)
      ·
       repeat (with_reducible first | exact HB8.out.mono HLT.out | refine below_setG ?_ GE.out)
      ·
       rw [HU.out s, if_neg (fun h => H3.out h.2), Int.add_zero]
      ·
       rw [HNM.out s, Bool.eq_false_iff.mpr H3.out, Bool.and_false, Bool.or_false]
     ·
      refine HB.out.trans ?_
      repeat (with_reducible first | exact HB8.out.mono HLW.out | refine below_setG ?_ GW.out)
  ·
   have c2b0 : decide ((i : Int) < (l0.length : Int)) = false := df_ (by omega); have c2b1 : decide (i < l0.length) = false := df_ c2; have hi : i = l0.length := by have := HN.out; omega
   have HM2 := HM.out; rw [List.take_of_length_le (by omega), hi] at HM2; have HM3 := am_ HM2; clear HM2 c2 hi hl2; go_wp2; go_ret; exact ⟨_, rfl, Nat.le_refl _, HM3.out, HB.out⟩
set_option maxHeartbeats 4000000 in
theorem used_walk (A0 : Option Addr) (c0 : Nat) (l0 : List S66) (o : ByteArray) (w : World) (hr0 : Kd.C k66 w A0 l0.length l0) (hl : l0.length ≤ 1000) (hz : ∀ x ∈ l0, x.f3.size ≤ 140737488351232) (ho : o.size ≤ 140737488351232) :
  Calls Try.prog 19 #[.slice A0 l0.length c0, .string o] w fun e w' => e = .returned (.int .i64 (used o l0)) ∧ Below w.heap.size w w' := by
 have HT := am_ (totals_fn A0 c0 l0 w hr0 hl hz); have HO := am_ ho; clear hr0 hl hz ho; go_enter Try.func19, Try.ntmps19
 go_wp2_with (go_at_call 29; refine HT.out.mono ?_; rintro e w6 ⟨b, rfl, hb1, hm, hb6⟩; have HM := am_ hm; have HB := am_ hb6; have hrun := hm.look o HO.out; clear hm hb6 hb1)
 go_ret; exact ⟨rfl, HB.out⟩
def usedOk (l : List S66) : Prop := l.length ≤ 1000 ∧ ∀ x ∈ l, x.f3.size ≤ 140737488351232
instance (l : List S66) : Decidable (usedOk l) := inferInstanceAs (Decidable (_ ∧ _))
def quota_Used.f (l0 : List S66) (a1 : ByteArray) : Option Int := if usedOk l0 ∧ a1.size ≤ 140737488351232 then some (used a1 l0) else none
theorem quota_Used.calls (A0 : Option Addr) (c0 : Nat) (l0 : List S66) (a1 : ByteArray) (r : Int) (w : World) (hr0 : Kd.C k66 w A0 l0.length l0) (_hc0 : l0.length ≤ c0) (h : quota_Used.f l0 a1 = some r) :
  Calls Try.prog 19 #[.slice A0 l0.length c0, .string a1] w fun e w' => e = .returned (.int .i64 r) ∧ Below w.heap.size w w' := by
 unfold quota_Used.f at h
 by_cases hl : usedOk l0 ∧ a1.size ≤ 140737488351232
 ·
  rw [if_pos hl] at h; cases h; exact used_walk A0 c0 l0 a1 w hr0 hl.1.1 hl.1.2 hl.2
 ·
  rw [if_neg hl] at h; cases h
end Go.Proofs.Ytbadelcnaeijkaa.Q
end
section
namespace Go.Proofs.Ytbadelcnaeijkaa.Q
open Go.RowKit Go.Proofs.YtbadelcnaeijkaaW.PrintWords Go.Proofs.YtbadelcnaeijkaaW.PrintLast Go.Proofs.YtbadelcnaeijkaaW.PrintMore
attribute [local go_sem] max2_int min2_int max_two min_two max_three min_three max_four min_four
attribute [local go_sem ↓] isSome_setCell
attribute [local go_sem] string_gtr
set_option linter.unusedVariables false
set_option linter.unusedSimpArgs false
def lim (o : ByteArray) : List S55 → Int × Bool
 | [] => (0, false)
 | x :: l => if x.f0 = o then (x.f1, true) else lim o l
def limIdx (o : ByteArray) : List S55 → Nat → Int
 | [], _ => -1
 | x :: l, i => if x.f0 = o then (i : Int) else limIdx o l (i + 1)
theorem limIdx_cons (o : ByteArray) (x : S55) (l : List S55) (i : Nat) : limIdx o (x :: l) i = if x.f0 = o then (i : Int) else limIdx o l (i + 1) := rfl
theorem limIdx_lim (o : ByteArray) : ∀ (l : List S55) (i : Nat), (limIdx o l i = -1 ∧ lim o l = (0, false)) ∨ ∃ j, j < l.length ∧ limIdx o l i = ((i + j : Nat) : Int) ∧ lim o l = ((l.getD j z55).f1, true)
 | [], i => .inl ⟨rfl, rfl⟩
 | x :: l, i => by
  unfold limIdx lim
  by_cases h : x.f0 = o
  ·
   rw [if_pos h, if_pos h]; exact .inr ⟨0, by simp, rfl, rfl⟩
  ·
   rw [if_neg h, if_neg h]
   rcases limIdx_lim o l (i + 1) with h1 | ⟨j, h1, h2, h3⟩
   ·
    exact .inl h1
   ·
    exact .inr ⟨j + 1, by simp; omega, by rw [h2]; congr 1; omega, by rw [h3]; rfl⟩
set_option maxHeartbeats 2000000 in
theorem limit_fn (x : S55) (o : ByteArray) (gb : Nat) (w : World) (hc : w.cell? ⟨gb, 0, none⟩ = some (.string o)) :
  Calls Try.prog 39 #[.agg #[.string x.f0, .int .i64 x.f1], .pointer (some ⟨gb, 0, none⟩)] w fun e w' => e = .returned (.bool (x.f0.toList == o.toList)) ∧ Below w.heap.size w w' := by
 have hu55 := Try.underlying55; have hlt := bk_ w _ hc; have HB := am_ (Below.refl w.heap.size w); have hc2 : ∀ ob : Obj, (w.alloc ob).cell? ⟨gb, 0, none⟩ = some (.string o) := fun ob => Lib.cell?_alloc_some _ hc
 go_enter Try.func39, Try.ntmps39; go_wp2; go_ret; exact ⟨rfl, (Below.refl _ _).alloc (Nat.le_refl _) _⟩
theorem limit_fn2 (x : S55) (o : ByteArray) (gb : Nat) (b : Bool) (hb : (x.f0.toList == o.toList) = b) (w : World) (hc : w.cell? ⟨gb, 0, none⟩ = some (.string o)) :
  Calls Try.prog 39 #[.agg #[.string x.f0, .int .i64 x.f1], .pointer (some ⟨gb, 0, none⟩)] w fun e w' => e = .returned (.bool b) ∧ Below w.heap.size w w' := hb ▸ limit_fn x o gb w hc
set_option maxHeartbeats 4000000 in
theorem limit_idx (A0 : Option Addr) (c0 : Nat) (l0 : List S55) (o : ByteArray) (gb : Nat) (w : World) (hr0 : Kd.C k55 w A0 l0.length l0) (hc : w.cell? ⟨gb, 0, none⟩ = some (.string o)) (hl : l0.length ≤ 1000000000) :
  Calls Try.prog 38 #[.slice A0 l0.length c0, .func (.func 39) #[] #[.pointer (some ⟨gb, 0, none⟩)]] w fun e w' => e = .returned (.int .i64 (limIdx o l0 0)) ∧ Below w.heap.size w w' := by
 have hu55 := Try.underlying55; have hlt := bk_ w _ hc; have HR0 := am_ hr0; have HC := am_ hc; have HL := am_ hl; clear hr0 hc hl; have HB := am_ (Below.refl w.heap.size w); go_enter Try.func38, Try.ntmps38; go_wp2
 go_loopg [8] l0.length (fun kq v8 w' => ∃ i : Nat, v8 = .int .i64 (i : Int) ∧ Aside0 (i + kq = l0.length) ∧ Aside0 (limIdx o (l0.drop i) i = limIdx o l0 0) ∧ Aside0 (Below w.heap.size w w'))
 case atStart => exact ⟨0, rfl, ⟨by omega⟩, ⟨rfl⟩, HB⟩
 case round =>
  obtain ⟨i, rfl, HN, HI, HB⟩ := hrel; have hl2 := HL.out
  by_cases c2 : i < l0.length
  ·
   have c2b0 : decide ((i : Int) < (l0.length : Int)) = true := de_ (by omega); have c2b1 : decide (i < l0.length) = true := de_ c2; have p1 : 0 ≤ (i : Int) := by omega
   have q1 : (i : Int) < (l0.length : Int) := by omega
   obtain ⟨ad1, e1, hx1_0, hx1_1⟩ := at_T55 HR0.out (i : Int) p1 q1; cases e1; replace hx1_0 := (HB.out.cell (bk_ w _ hx1_0)).trans hx1_0; replace hx1_1 := (HB.out.cell (bk_ w _ hx1_1)).trans hx1_1; have hcw := (HB.out.cell hlt).trans HC.out; rw [Int.toNat_natCast] at hx1_0 hx1_1
   have hrd : rd_T55 l0 (i : Int) = l0[i]'c2 := by
    unfold rd_T55
    rw [Int.toNat_natCast, List.getD_eq_getElem?_getD, List.getElem?_eq_getElem c2]; rfl
   rw [hrd] at hx1_0 hx1_1; have hdrop : l0.drop i = l0[i]'c2 :: l0.drop (i + 1) := List.drop_eq_getElem_cons c2; have HD := am_ hdrop; clear hdrop hrd
   have hw : IntKind.i64.wrap ((i : Int) + 1) = ((i + 1 : Nat) : Int) := by
    rw [i64_w]
    unfold wrap64
    omega
   generalize l0[i]'c2 = x at *; replace p1 := eq_true p1; replace q1 := eq_true q1; have HCW := am_ hcw; clear hcw; clear hl2; have HF := fun b (hb : (x.f0.toList == o.toList) = b) => limit_fn2 x o gb b hb
   by_cases c3 : x.f0 = o
   ·
    have H3 := am_ c3; have HF2 := am_ (HF true (by rw [c3]; exact beq_self_eq_true _)); clear c3 HF
    go_wp2_with (go_at_call 39; refine (HF2.out _ HCW.out).mono ?_; rintro e w6 ⟨rfl, hb6⟩)
    have h1 := HI.out; rw [HD.out, limIdx_cons, if_pos H3.out] at h1; have H1 := am_ h1; clear h1; go_wp2; go_ret; refine ⟨?_, HB.out.trans (hb6.mono (bz_ HB.out))⟩; rw [← H1.out]
    first | rfl | trace_state
   ·
    have H3 := am_ c3; have HF2 := am_ (HF false (by rw [beq_eq_false_iff_ne]; exact fun e => c3 (ByteArray.ext (by rw [ByteArray.toList_eq, ByteArray.toList_eq] at e; exact Array.toList_inj.1 e)))); clear c3 HF
    go_wp2_with (go_at_call 39; refine (HF2.out _ HCW.out).mono ?_; rintro e w6 ⟨rfl, hb6⟩)
    go_roundg (l0.length - (i + 1))
    case measure => have := HN.out; omega
    case rel =>
     have h1 := HI.out; rw [HD.out, limIdx_cons, if_neg H3.out] at h1; exact ⟨i + 1, by simp, ⟨by have := HN.out; omega⟩, ⟨h1⟩, ⟨HB.out.trans (hb6.mono (bz_ HB.out))⟩⟩
  ·
   have c2b0 : decide ((i : Int) < (l0.length : Int)) = false := df_ (by omega); have c2b1 : decide (i < l0.length) = false := df_ c2; have h1 := HI.out; rw [List.drop_of_length_le (by omega)] at h1; have H1 := am_ h1; clear h1 c2; go_wp2; go_ret; exact ⟨by rw [← H1.out]; rfl, HB.out⟩
theorem below_back {w w' : World} (o : Obj) (h : Below (w.alloc o).heap.size (w.alloc o) w') : Below w.heap.size w w' :=
 ((Below.refl _ _).alloc (Nat.le_refl _) o).trans (h.mono (by simp))
set_option maxHeartbeats 4000000 in
theorem limit_walk (A0 : Option Addr) (c0 : Nat) (l0 : List S55) (o : ByteArray) (w : World) (hr0 : Kd.C k55 w A0 l0.length l0) (hl : l0.length ≤ 1000000000) :
  Calls Try.prog 17 #[.slice A0 l0.length c0, .string o] w fun e w' => e = .returned (.tuple #[.int .i64 (lim o l0).1, .bool (lim o l0).2]) ∧ Below w.heap.size w w' := by
 have HR0 := am_ hr0; have HL := am_ hl; have HX := am_ (limIdx_lim o l0 0); clear hr0 hl; go_enter Try.func17, Try.ntmps17
 rcases HX.out with ⟨h1, h2⟩ | ⟨j, hj, h1, h2⟩
 ·
  have HX2 := fun w hr0 gb hc => limit_idx A0 c0 l0 o gb w hr0 hc HL.out
  simp only [h1] at HX2; simp only [h2]; clear HX h1 h2
  go_wp2_with (go_at_call 38; refine (HX2 _ (Kd.C_alloc HR0.out _) _ ?_).mono ?_)
  ·
   rw [World.cell?_alloc_new]; rfl
  ·
   rintro e w6 ⟨rfl, hb6⟩; go_wp2; go_ret2; exact ⟨rfl, below_back _ hb6⟩
 ·
  have HX2 := fun w hr0 gb hc => limit_idx A0 c0 l0 o gb w hr0 hc HL.out
  simp only [h1, Nat.zero_add] at HX2; simp only [h2]; obtain ⟨ad1, e1, hx1_0, hx1_1⟩ := at_T55 HR0.out (j : Int) (by omega) (by omega); cases e1; rw [Int.toNat_natCast] at hx1_0 hx1_1
  have hrd : rd_T55 l0 (j : Int) = l0.getD j z55 := by
   unfold rd_T55
   rw [Int.toNat_natCast]
  rw [hrd] at hx1_0 hx1_1; generalize l0.getD j z55 = x at *; have p1 : 0 ≤ (j : Int) := by omega
  have q1 : (j : Int) < (l0.length : Int) := by omega
  have c2b0 : decide ((j : Int) < 0) = false := df_ (by omega); replace p1 := eq_true p1; replace q1 := eq_true q1; have HC := am_ hx1_1; clear HX h1 h2 hrd hj hx1_0 hx1_1
  go_wp2_with (go_at_call 38; refine (HX2 _ (Kd.C_alloc HR0.out _) _ ?_).mono ?_)
  ·
   rw [World.cell?_alloc_new]; rfl
  ·
   rintro e w6 ⟨rfl, hb6⟩; have hx := (below_back _ hb6).cell (bk_ w _ HC.out) |>.trans HC.out
   go_wp2; go_ret2; exact ⟨rfl, below_back _ hb6⟩
def quota_Limit.f (l0 : List S55) (a1 : ByteArray) : Option (Int × Bool) := if l0.length ≤ 1000000000 then some (lim a1 l0) else none
theorem quota_Limit.calls (A0 : Option Addr) (c0 : Nat) (l0 : List S55) (a1 : ByteArray) (r1 : Int) (r2 : Bool) (w : World) (hr0 : Kd.C k55 w A0 l0.length l0) (_hc0 : l0.length ≤ c0) (h : quota_Limit.f l0 a1 = some (r1, r2)) :
  Calls Try.prog 17 #[.slice A0 l0.length c0, .string a1] w fun e w' => e = .returned (.tuple #[.int .i64 r1, .bool r2]) ∧ Below w.heap.size w w' := by
 unfold quota_Limit.f at h
 by_cases hl : l0.length ≤ 1000000000
 ·
  rw [if_pos hl] at h; have e := si_ h; obtain ⟨rfl, rfl⟩ : (lim a1 l0).1 = r1 ∧ (lim a1 l0).2 = r2 := ⟨by rw [e], by rw [e]⟩; exact limit_walk A0 c0 l0 a1 w hr0 hl
 ·
  rw [if_neg hl] at h; cases h
end Go.Proofs.Ytbadelcnaeijkaa.Q
end
section
namespace Go.Proofs.Ytbadelcnaeijkaa.Q
open Go.RowKit Go.Proofs.YtbadelcnaeijkaaW.PrintWords Go.Proofs.YtbadelcnaeijkaaW.PrintLast Go.Proofs.YtbadelcnaeijkaaW.PrintMore
attribute [local go_sem] max2_int min2_int max_two min_two max_three min_three max_four min_four
attribute [local go_sem ↓] isSome_setCell
attribute [local go_sem] string_gtr
set_option linter.unusedVariables false
set_option linter.unusedSimpArgs false
def quota_exceeds.f (l0 : List (S55)) (a1 : ByteArray) (a2 : Int) : Option (Bool) := (quota_Limit.f l0 a1).bind fun bt133 => (if bt133.2 = true then (some (decide (bt133.1 < a2))) else (some false))
set_option maxHeartbeats 8000000 in
set_option maxRecDepth 100000 in
theorem quota_exceeds.calls (A0 : Option Addr) (c0 : Nat) (l0 : List (S55)) (a1 : ByteArray) (a2 : Int) (r : Bool) (w : World) (hr0 : Kd.C k55 w A0 l0.length l0) (hc0 : l0.length ≤ c0) (h : quota_exceeds.f l0 a1 a2 = some r) :
  Calls Try.prog 30 #[.slice A0 l0.length c0, .string a1, .int .i64 a2] w fun e w' => e = .returned (.bool r) ∧ Below w.heap.size w w' := by
 have HR0 := am_ hr0; have HC0 := am_ hc0; clear hr0 hc0; have HB := am_ (Below.refl w.heap.size w); have H : ((quota_Limit.f l0 a1).bind fun bt133 => (if bt133.2 = true then (some (decide (bt133.1 < a2))) else (some false))) = some r := h; clear h; replace H := Option.bind_eq_some_iff.mp H; obtain ⟨⟨t133, t134⟩, A40, H⟩ := H; replace H : (if t134 = true then (some (decide (t133 < a2))) else (some false)) = some r := H; have A4 := am_ A40; clear A40
 by_cases c5 : t134 = true
 ·
  subst c5; have H1 : (some (decide (t133 < a2))) = some r := by rw [if_pos rfl] at H; exact H
  clear H; have H := H1; clear H1; obtain rfl := si_ H; go_enter Try.func30, Try.ntmps30
  go_wp2_with (first | ((with_reducible refine gate_callee (f := 17) rfl ?_); refine goesL_ (some 12) rfl rfl Try.func17 (by kernel_rfl) rfl #[.slice A0 l0.length c0, .string a1] rfl au_ ?_; (with_reducible refine (quota_Limit.calls _ _ l0 a1 t133 true _ ?side1 ?side2 A4.out).mono ?_); (case side1 => repeat (first | exact HR0.out | (with_reducible refine Kd.C_alloc ?_ _) | (with_reducible refine Kd.C_drewN ?_ _) | (with_reducible refine Kd.C_drew ?_))); (case side2 => exact HC0.out); rintro e w6 ⟨rfl, hb⟩; refine ⟨_, rfl, ?_⟩; have n0_ := am_ (sp_ (pb0_ HB.out) hb); clear HB; have HB := n0_; clear n0_; (try clear hb); (try clear hb2); (try clear hk); (try clear hi)))
  go_ret; exact ⟨by first | rfl | (simp [errW_none, errW_some] <;> rfl) | (simp [*, errW_none, errW_some] <;> rfl), pb0_ HB.out⟩
 ·
  replace c5 := Bool.eq_false_iff.mpr c5; subst c5; have H1 : (some false) = some r := by rw [if_neg (show ¬ (false = true) by decide)] at H; exact H
  clear H; have H := H1; clear H1; obtain rfl := si_ H; go_enter Try.func30, Try.ntmps30
  go_wp2_with (first | ((with_reducible refine gate_callee (f := 17) rfl ?_); refine goesL_ (some 12) rfl rfl Try.func17 (by kernel_rfl) rfl #[.slice A0 l0.length c0, .string a1] rfl au_ ?_; (with_reducible refine (quota_Limit.calls _ _ l0 a1 t133 false _ ?side1 ?side2 A4.out).mono ?_); (case side1 => repeat (first | exact HR0.out | (with_reducible refine Kd.C_alloc ?_ _) | (with_reducible refine Kd.C_drewN ?_ _) | (with_reducible refine Kd.C_drew ?_))); (case side2 => exact HC0.out); rintro e w7 ⟨rfl, hb⟩; refine ⟨_, rfl, ?_⟩; have n0_ := am_ (sp_ (pb0_ HB.out) hb); clear HB; have HB := n0_; clear n0_; (try clear hb); (try clear hb2); (try clear hk); (try clear hi)))
  go_ret; exact ⟨by first | rfl | (simp [errW_none, errW_some] <;> rfl) | (simp [*, errW_none, errW_some] <;> rfl), pb0_ HB.out⟩
end Go.Proofs.Ytbadelcnaeijkaa.Q
end
section
namespace Go.Proofs.Ytbadelcnaeijkaa.Q
open Go.RowKit Go.Proofs.YtbadelcnaeijkaaW.PrintWords Go.Proofs.YtbadelcnaeijkaaW.PrintLast Go.Proofs.YtbadelcnaeijkaaW.PrintMore
attribute [local go_sem] max2_int min2_int max_two min_two max_three min_three max_four min_four
attribute [local go_sem ↓] isSome_setCell
attribute [local go_sem] string_gtr
set_option linter.unusedVariables false
set_option linter.unusedSimpArgs false
def badIdx : List Int → Nat → Int
 | [], _ => -1
 | x :: l, i => if num x = true then badIdx l (i + 1) else (i : Int)
theorem badIdx_cons (x : Int) (l : List Int) (i : Nat) : badIdx (x :: l) i = if num x = true then badIdx l (i + 1) else (i : Int) := rfl
theorem badIdx_spec : ∀ (l : List Int) (i : Nat), (badIdx l i = -1 ∧ (l.all num) = true) ∨ (0 ≤ badIdx l i ∧ (l.all num) = false)
 | [], i => .inl ⟨rfl, rfl⟩
 | x :: l, i => by
  rw [badIdx_cons]
  by_cases h : num x = true
  ·
   rw [if_pos h]
   simpa [h] using badIdx_spec l (i + 1)
  ·
   rw [if_neg h]; exact .inr ⟨by omega, by simp [h]⟩
theorem wrong_fn (x : Int) (b : Bool) (hb : num x = b) (w : World) : Calls Try.prog 26 #[.int .i64 x] w fun e w' => e = .returned (.bool (!b)) ∧ w' = w := by
 have HF := number_fn x; rw [hb] at HF; clear hb; cases b
 ·
  go_enter Try.func26, Try.ntmps26
  go_wp2_with (go_at_call 27; refine (HF _).mono ?_; rintro e w9 ⟨rfl, rfl⟩)
  go_ret; exact ⟨rfl, rfl⟩
 ·
  go_enter Try.func26, Try.ntmps26
  go_wp2_with (go_at_call 27; refine (HF _).mono ?_; rintro e w9 ⟨rfl, rfl⟩)
  go_ret; exact ⟨rfl, rfl⟩
set_option maxHeartbeats 4000000 in
theorem bad_idx (A0 : Option Addr) (c0 : Nat) (l0 : List Int) (w : World) (hr0 : Kd.C (Kd.int .i64) w A0 l0.length l0) (hl : l0.length ≤ 1000000000) :
  Calls Try.prog 43 #[.slice A0 l0.length c0, .func (.func 26) #[] #[]] w fun e w' => e = .returned (.int .i64 (badIdx l0 0)) ∧ w' = w := by
 have HR0 := am_ hr0; have HL := am_ hl; clear hr0 hl; go_enter Try.func43, Try.ntmps43; go_wp2
 go_loopg [8] l0.length (fun kq v8 w' => ∃ i : Nat, v8 = .int .i64 (i : Int) ∧ Aside0 (i + kq = l0.length) ∧ Aside0 (badIdx (l0.drop i) i = badIdx l0 0) ∧ Aside0 (w' = w))
 case atStart => exact ⟨0, rfl, ⟨by omega⟩, ⟨rfl⟩, ⟨rfl⟩⟩
 case round =>
  obtain ⟨i, rfl, HN, HI, HB⟩ := hrel; obtain rfl := HB.out; clear HB; have hl2 := HL.out
  by_cases c2 : i < l0.length
  ·
   have c2b0 : decide ((i : Int) < (l0.length : Int)) = true := de_ (by omega); have c2b1 : decide (i < l0.length) = true := de_ c2; have p1 : 0 ≤ (i : Int) := by omega
   have q1 : (i : Int) < (l0.length : Int) := by omega
   obtain ⟨ad1, e1, hx1⟩ := Kd.at_int HR0.out (i : Int) p1 q1; cases e1; rw [Int.toNat_natCast] at hx1
   have hrd : rd l0 (i : Int) = l0[i]'c2 := by
    unfold rd
    rw [Int.toNat_natCast, List.getD_eq_getElem?_getD, List.getElem?_eq_getElem c2]; rfl
   rw [hrd] at hx1; have HD := am_ (List.drop_eq_getElem_cons c2); clear hrd
   have hw : IntKind.i64.wrap ((i : Int) + 1) = ((i + 1 : Nat) : Int) := by
    rw [i64_w]
    unfold wrap64
    omega
   generalize l0[i]'c2 = x at *; replace p1 := eq_true p1; replace q1 := eq_true q1; clear hl2
   by_cases c3 : num x = true
   ·
    have H3 := am_ c3; have HF := am_ (wrong_fn x true c3); clear c3
    go_wp2_with (go_at_call 26; refine (HF.out _).mono ?_; rintro e w9 ⟨rfl, rfl⟩)
    go_roundg (l0.length - (i + 1))
    case measure => have := HN.out; omega
    case rel =>
     have h1 := HI.out; rw [HD.out, badIdx_cons, if_pos H3.out] at h1; exact ⟨i + 1, by simp, ⟨by have := HN.out; omega⟩, ⟨h1⟩, ⟨rfl⟩⟩
   ·
    have H3 := am_ c3; have HF := am_ (wrong_fn x false (Bool.eq_false_iff.mpr c3)); clear c3; have h1 := HI.out; rw [HD.out, badIdx_cons, if_neg H3.out] at h1; have H1 := am_ h1; clear h1
    go_wp2_with (go_at_call 26; refine (HF.out _).mono ?_; rintro e w9 ⟨rfl, rfl⟩)
    go_ret; refine ⟨?_, rfl⟩; rw [← H1.out]; rfl
  ·
   have c2b0 : decide ((i : Int) < (l0.length : Int)) = false := df_ (by omega); have c2b1 : decide (i < l0.length) = false := df_ c2; have h1 := HI.out; rw [List.drop_of_length_le (by omega)] at h1; have H1 := am_ h1; clear h1 c2; go_wp2; go_ret; exact ⟨by rw [← H1.out]; rfl, rfl⟩
theorem bad_has (A0 : Option Addr) (c0 : Nat) (l0 : List Int) (w : World) (hr0 : Kd.C (Kd.int .i64) w A0 l0.length l0) (hl : l0.length ≤ 1000000000) :
  Calls Try.prog 28 #[.slice A0 l0.length c0, .func (.func 26) #[] #[]] w fun e w' => e = .returned (.bool (!l0.all num)) ∧ w' = w := by
 have HI := fun w hr0 => bad_idx A0 c0 l0 w hr0 hl
 rcases badIdx_spec l0 0 with ⟨h1, h2⟩ | ⟨h1, h2⟩
 ·
  rw [h1] at HI; rw [h2]; clear h1 h2; go_enter Try.func28, Try.ntmps28
  go_wp2_with (go_at_call 43; refine (HI _ hr0).mono ?_; rintro e w9 ⟨rfl, rfl⟩)
  go_ret; exact ⟨rfl, rfl⟩
 ·
  rw [h2]; generalize badIdx l0 0 = x at *; have c : decide (0 ≤ x) = true := de_ h1; clear h1 h2; go_enter Try.func28, Try.ntmps28
  go_wp2_with (go_at_call 43; refine (HI _ hr0).mono ?_; rintro e w9 ⟨rfl, rfl⟩)
  go_ret; exact ⟨rfl, rfl⟩
def addS (o : ByteArray) (p : List (ByteArray × Int)) : Int := (p.map fun x => if x.1 = o then x.2 else 0).sum
theorem addS_step (o : ByteArray) (p : List (ByteArray × Int)) (i : Nat) (h : i < p.length) : addS o (p.take (i + 1)) = addS o (p.take i) + (if p[i].1 = o then p[i].2 else 0) := by
 rw [List.take_add_one, List.getElem?_eq_getElem h, addS, List.map_append, List.sum_append]
 simp [addS, -List.map_take]
theorem addS_bound (o : ByteArray) : ∀ p : List (ByteArray × Int), (∀ x ∈ p, num x.2 = true) → 0 ≤ addS o p ∧ addS o p ≤ p.length * 1125899906842624
 | [], _ => ⟨Int.le_refl _, Int.le_refl _⟩
 | x :: l, h => by
  have ih := addS_bound o l (fun y hy => h y (List.mem_cons_of_mem _ hy)); have e : addS o (x :: l) = (if x.1 = o then x.2 else 0) + addS o l := by simp [addS]
  have := num_le (h x List.mem_cons_self); rw [e, List.length_cons]
  by_cases c : x.1 = o
  ·
   rw [if_pos c]
   omega
  ·
   rw [if_neg c]
   omega
def exc (l : List S55) (o : ByteArray) (n : Int) : Bool := (lim o l).2 && decide ((lim o l).1 < n)
def firstEx (l : List S55) (g : ByteArray → Int) : List ByteArray → Nat → Int × Int
 | [], _ => (0, 0)
 | o :: m, i => if exc l o (g o) = true then ((i : Int), 20) else firstEx l g m (i + 1)
theorem firstEx_cons (l : List S55) (g : ByteArray → Int) (o : ByteArray) (m : List ByteArray) (i : Nat) : firstEx l g (o :: m) i = if exc l o (g o) = true then ((i : Int), 20) else firstEx l g m (i + 1) := rfl
theorem exc_f (l : List S55) (hl : l.length ≤ 1000000000) (o : ByteArray) (n : Int) : quota_exceeds.f l o n = some (exc l o n) := by
 unfold quota_exceeds.f quota_Limit.f exc
 rw [if_pos hl]
 rcases lim o l with ⟨a, b⟩
 cases b <;> rfl
def admitS (l3 : List S66) (l9 : List S55) (m1 : List ByteArray) (m2 : List Int) : Int × Int :=
 if m1.length ≠ m2.length then (0, 8) else if (!m2.all num) = true then (0, 8) else firstEx l9 (fun s => used s l3 + addS s (m1.zip m2)) m1 0
def adT : Bool × List (List Nat × List Nat) := (true, [([], []), ([], []), ([0, 1], [0, 1]), ([], []), ([], []), ([3, 4], [3, 4]), ([5], [5]), ([2, 6], [2, 6]), ([0, 1, 7, 0, 1, 2, 3, 4, 5, 6, 7], [0, 1, 7])])
def adB : List Nat := [0, 0, 3, 0, 0, 24, 56, 127, 255]
theorem adTab : rtab .any (opsOf Try.f11 8) = adT := by kernel_rfl
theorem adBits : waitsOk adT.2 adB = true := by kernel_rfl
set_option maxRecDepth 100000 in
set_option maxHeartbeats 8000000 in
theorem admit_walk (a0 a1 a2 : Int) (A3 : Option Addr) (c3 : Nat) (l3 : List S66) (A4 : Option Addr) (c4 : Nat) (l4 : List S133) (A5 : Option Addr) (c5 : Nat) (l5 : List S135) (A6 : Option Addr) (c6 : Nat) (l6 : List S137) (A7 : Option Addr) (c7 : Nat) (l7 : List S139) (A8 : Option Addr) (c8 : Nat) (l8 : List S141) (A9 : Option Addr) (c9 : Nat) (l9 : List S55) (A10 : Option Addr) (c10 : Nat) (l10 : List S143) (B1 : Option Addr) (d1 : Nat) (m1 : List ByteArray) (B2 : Option Addr) (d2 : Nat) (m2 : List Int) (w : World) (hr3 : Kd.C k66 w A3 l3.length l3) (hr9 : Kd.C k55 w A9 l9.length l9) (hm1 : Kd.C Kd.string w B1 m1.length m1) (hm2 : Kd.C (Kd.int .i64) w B2 m2.length m2)
  (hc9 : l9.length ≤ c9) (hu : usedOk l3) (hl9 : l9.length ≤ 1000000000) (hz : m1.length ≤ 1000 ∧ ∀ o ∈ m1, o.size ≤ 140737488351232) (hl2 : m2.length ≤ 1000000000) :
  Calls Try.prog 11 #[.agg #[.int .i64 a0, .int .i64 a1, .int .i64 a2, .slice A3 l3.length c3, .slice A4 l4.length c4, .slice A5 l5.length c5, .slice A6 l6.length c6, .slice A7 l7.length c7, .slice A8 l8.length c8, .slice A9 l9.length c9, .slice A10 l10.length c10], .slice B1 m1.length d1, .slice B2 m2.length d2] w fun e w' => e = .returned (.tuple #[.int .i64 (admitS l3 l9 m1 m2).1, .int .i64 (admitS l3 l9 m1 m2).2]) ∧ Below w.heap.size w w' := by
 have HR3 := am_ hr3; have HR9 := am_ hr9; have HM1 := am_ hm1; have HM2 := am_ hm2; have HU := am_ hu; have HC9 := am_ hc9; have HL9 := am_ hl9; have HZ := am_ hz; have HL2 := am_ hl2; clear hc9 hr3 hr9 hm1 hm2 hu hl9 hz hl2
 by_cases e1 : m1.length = m2.length
 ·
  by_cases e2 : m2.all num = true
  ·
   have hA : admitS l3 l9 m1 m2 = firstEx l9 (fun s => used s l3 + addS s (m1.zip m2)) m1 0 := by
    unfold admitS
    rw [if_neg (not_not_intro e1), if_neg (by rw [e2]; decide)]
   have HBAD := am_ (bad_has B2 d2 m2); rw [e2] at HBAD; have b0 : decide ((m1.length : Int) = (m2.length : Int)) = true := de_ (by rw [e1]); have b1 : decide (m1.length = m2.length) = true := de_ e1; have b2 : ((m1.length : Int) != (m2.length : Int)) = false := by rw [e1]; exact bne_self_eq_false _
   have HN2 : Aside0 (∀ x ∈ m1.zip m2, num x.2 = true) := ⟨fun x hx => List.all_eq_true.1 e2 _ (List.of_mem_zip hx).2⟩; have HE1 := am_ e1; have HZL := am_ (show (m1.zip m2).length = m1.length by rw [List.length_zip, e1, Nat.min_self]); rw [hA]; clear hA e1 e2; go_enter Try.func11, Try.ntmps11
   go_wp2_with (first | ((with_reducible refine gate_dst (N := 3) rfl ?_); refine box_event ?hg (N := 3) ?hd (cs := #[.int .i64 a0, .int .i64 a1, .int .i64 a2, .slice A3 l3.length c3, .slice A4 l4.length c4, .slice A5 l5.length c5, .slice A6 l6.length c6, .slice A7 l7.length c7, .slice A8 l8.length c8, .slice A9 l9.length c9, .slice A10 l10.length c10]) (t := 31) ?hr ?_; (case hd => rfl); (case hg => rfl); (case hr => first | (go_simp; done) | (go_simp; rfl)); intro gb hg w1 hbox hb; have BK := am_ hbox; have HB := am_ hb; have GL := am_ (bk_ w1 ⟨gb, 3, none⟩ ((bc_ hbox 3).trans rfl)); have hcz_3 : w1.cell? ⟨gb, 3, none⟩ = some (.slice A3 l3.length c3) := (bc_ hbox 3).trans rfl; clear hb hbox hg) | (go_at_call 28; refine (HBAD.out _ (Kd.C_below HM2.out HB.out) HL2.out).mono ?_; rintro e w9 ⟨rfl, hw9⟩; subst w9) | (go_at_call 29; refine (totals_fn A3 c3 l3 _ (Kd.C_below HR3.out HB.out) HU.out.1 HU.out.2).mono ?_; rintro e w2 ⟨mb, rfl, hb1, hm, hb2⟩; have HMB := am_ hb1; have HM := am_ hm; have HB2 := am_ hb2; clear hb1 hm hb2 hcz_3))
   go_loopg [29] m1.length (fun kq v29 w' => ∃ i : Nat, v29 = .int .i64 (i : Int) ∧ Aside0 (i + kq = m1.length) ∧ Aside0 (∃ hs, MapIs w' mb (l3.length + i) (fun s => used s l3 + addS s ((m1.zip m2).take i)) hs) ∧ Aside0 (Below w1.heap.size w1 w'))
   case atStart => exact ⟨0, rfl, ⟨by omega⟩, ⟨_, mapIs_ext HM.out (fun s => by simp [addS]) (fun _ => rfl)⟩, HB2⟩
   case round =>
    obtain ⟨i, rfl, HN, HM2_, HBL⟩ := hrel; have HBW := am_ (HB.out.trans (HBL.out.mono HB.out.size))
    by_cases c2 : i < m1.length
    ·
     have c2b0 : decide ((i : Int) < (m1.length : Int)) = true := de_ (by omega); have c2b1 : decide (i < m1.length) = true := de_ c2; have p1 : 0 ≤ (i : Int) := by omega
     have q1 : (i : Int) < (m1.length : Int) := by omega
     have q2 : (i : Int) < (m2.length : Int) := by have := HE1.out; omega
     have c2' : i < m2.length := by have := HE1.out; omega
     obtain ⟨ad1, e1, hx1⟩ := Kd.at_string (Kd.C_below HM1.out HBW.out) (i : Int) p1 q1; obtain ⟨ad2, e2, hx2⟩ := Kd.at_int (Kd.C_below HM2.out HBW.out) (i : Int) p1 q2; cases e1; cases e2; rw [Int.toNat_natCast] at hx1 hx2
     have hrd1 : rdOf ByteArray.empty m1 (i : Int) = m1[i]'c2 := by
      unfold rdOf
      rw [Int.toNat_natCast, List.getD_eq_getElem?_getD, List.getElem?_eq_getElem c2]; rfl
     have hrd2 : rd m2 (i : Int) = m2[i]'c2' := by
      unfold rd
      rw [Int.toNat_natCast, List.getD_eq_getElem?_getD, List.getElem?_eq_getElem c2']; rfl
     rw [hrd1] at hx1; rw [hrd2] at hx2; have hzi : i < (m1.zip m2).length := by rw [HZL.out]; exact c2
     have HST : Aside0 (∀ s, addS s ((m1.zip m2).take (i + 1)) = addS s ((m1.zip m2).take i) + (if m1[i]'c2 = s then m2[i]'c2' else 0)) := ⟨fun s => by rw [addS_step s _ i hzi]; simp⟩; have HX2 : Aside0 (num (m2[i]'c2') = true) := ⟨by have := HN2.out _ (List.getElem_mem hzi); simpa using this⟩; have HZO : Aside0 ((m1[i]'c2).size ≤ 140737488351232) := ⟨HZ.out.2 _ (List.getElem_mem c2)⟩; have HUB := am_ (fun s => used_bound s l3); have HAB := am_ (fun s => addS_bound s ((m1.zip m2).take i) (fun x hx => HN2.out x (List.mem_of_mem_take hx))); have HTL := am_ (show ((m1.zip m2).take i).length = i by rw [List.length_take]; omega)
     have hw : IntKind.i64.wrap ((i : Int) + 1) = ((i + 1 : Nat) : Int) := by
      have := HZ.out.1; rw [i64_w]
      unfold wrap64
      omega
     clear hrd1 hrd2 hzi; generalize m1[i]'c2 = o at *; generalize m2[i]'c2' = x at *; have HW : Aside0 (wrap64 (used o l3 + addS o ((m1.zip m2).take i) + x) = used o l3 + addS o ((m1.zip m2).take i) + x) := ⟨(wrap_lit _ (by have := HUB.out o; have := HAB.out o; have := num_le HX2.out; omega) (by have := HUB.out o; have := HAB.out o; have := num_le HX2.out; have := HU.out.1; have := HZ.out.1; rw [HTL.out] at *; omega)).1⟩; replace p1 := eq_true p1; replace q1 := eq_true q1; replace q2 := eq_true q2; obtain ⟨hs, hm⟩ := HM2_.out; have HNI := am_ (show l3.length + i < maxLen by have := HU.out.1; have := HZ.out.1; unfold maxLen; omega); have HMI := am_ hm; have HC2 := am_ c2; clear hm c2 c2' HM2_; have HX2c := am_ hx2
     go_upto_region 8 with (fail)
     refine start_ (n := 9) (S := fun w' => MapIs w' mb (l3.length + i) (fun s => used s l3 + addS s ((m1.zip m2).take i)) hs ∧ w'.cell? (ad2.add i) = some (.int .i64 x)) (ds := [8]) #[false, false, false, false, false, false, false, false, false] (by kernel_rfl) rfl rfl ⟨HMI.out, hx2⟩ (fun hHeld => ?_); refine with_tabW adTab adBits (fun HT_ HW_ => ?_); have HBD : Aside0 (Below w1.heap.size w1 wr.drew) := ⟨HBL.out.drew⟩; clear HMI HX2c hx1 hx2 HBL HBW; generalize wr.drew = w3 at HBD hHeld ⊢; refine pure_ (i := 0) (N := some 34) (v := ?_) (a' := ?_) #[true, false, false, false, false, false, false, false, false] rfl rfl (any_of HT_.out (by kernel_rfl)) (fun _ _ _ h => h) (Or.inl ⟨by rfl, ?_⟩) ?_ ?_; rotate_left; (intro w'; go_simp; with_reducible rfl); rotate_left; (simp only [Act.put, lt1_, lt2_, lt3_, i64_w, i32_w]; rfl); refine pure_ (i := 1) (N := some 35) (v := ?_) (a' := ?_) #[true, true, false, false, false, false, false, false, false] rfl rfl (any_of HT_.out (by kernel_rfl)) (fun _ _ _ h => h) (Or.inl ⟨by rfl, ?_⟩) ?_ ?_; rotate_left; (intro w'; go_simp; with_reducible rfl); rotate_left; (simp only [Act.put, lt1_, lt2_, lt3_, i64_w, i32_w]; rfl); refine pure_ (i := 3) (N := some 37) (v := ?_) (a' := ?_) #[true, true, false, true, false, false, false, false, false] rfl rfl (any_of HT_.out (by kernel_rfl)) (fun _ _ _ h => h) (Or.inl ⟨by rfl, ?_⟩) ?_ ?_; rotate_left; (intro w'; go_simp; with_reducible rfl); rotate_left; (simp only [Act.put, lt1_, lt2_, lt3_, i64_w, i32_w]; rfl); refine pure_ (i := 4) (N := some 38) (v := ?_) (a' := ?_) #[true, true, false, true, true, false, false, false, false] rfl rfl (any_of HT_.out (by kernel_rfl)) (fun _ _ _ h => h) (Or.inl ⟨by rfl, ?_⟩) ?_ ?_; rotate_left; (intro w'; go_simp; with_reducible rfl); rotate_left; (simp only [Act.put, lt1_, lt2_, lt3_, i64_w, i32_w]; rfl); refine pure_ (i := 5) (N := some 39) (v := ?_) (a' := ?_) #[true, true, false, true, true, true, false, false, false] rfl rfl (any_of HT_.out (by kernel_rfl)) (fun _ _ _ h => h) (Or.inl ⟨by rfl, ?_⟩) ?_ ?_; rotate_left; (intro w'; go_simp; with_reducible rfl); rotate_left; (simp only [Act.put, lt1_, lt2_, lt3_, i64_w, i32_w]; rfl); refine take_ (i := 2) (N := some 36) (v := ?_) (a' := ?_) #[true, true, true, true, true, true, false, false, false] rfl rfl (take_ofW HT_.out HW_.out (by kernel_rfl)) (fun _ _ _ h => h) (Or.inl ⟨by rfl, ?_⟩) hHeld ?_ ?_; rotate_left
     ·
      rintro w' ⟨s0, s1⟩; have hrun := s0.look o HZO.out; go_simp; with_reducible rfl
     rotate_left
     ·
      simp only [Act.put, lt1_, lt2_, lt3_, i64_w, i32_w]; rfl
     refine take_ (i := 6) (N := some 40) (v := ?_) (a' := ?_) #[true, true, true, true, true, true, true, false, false] rfl rfl (take_ofW HT_.out HW_.out (by kernel_rfl)) (fun _ _ _ h => h) (Or.inl ⟨by rfl, ?_⟩) hHeld ?_ ?_; rotate_left
     ·
      rintro w' ⟨s0, s1⟩; go_simp; with_reducible rfl
     rotate_left
     ·
      simp only [Act.put, lt1_, lt2_, lt3_, i64_w, i32_w]; rfl
     refine pure_ (i := 7) (N := some 41) (v := ?_) (a' := ?_) #[true, true, true, true, true, true, true, true, false] rfl rfl (any_of HT_.out (by kernel_rfl)) (fun _ _ _ h => h) (Or.inl ⟨by rfl, ?_⟩) ?_ ?_; rotate_left; (intro w'; go_simp; with_reducible rfl); rotate_left; (simp only [Act.put, lt1_, lt2_, lt3_, i64_w, i32_w]; rfl); refine last_ (i := 8) (N := none) #[true, true, true, true, true, true, true, true, true] rfl rfl (one_of HT_.out (by kernel_rfl)) (by decide) (fun K hK => ?_); have hru := MapIs.update hHeld.1 HNI.out o HZO.out (wrap64 (used o l3 + addS o ((m1.zip m2).take i) + x)) (wrap64_wf _); obtain ⟨w4, hrun4, hm4, hg4⟩ := hru; have HM4 := am_ hm4; have HG4 := am_ hg4; clear hm4 hg4; refine skip_ (w1 := w4) (by rfl) rfl ?_ ?_
     ·
      go_simp
     refine hK.out _ _ ?_; clear hK K hHeld hrun4; refine done_ (done_of HT_.out (by kernel_rfl)) ?_
     try go_wp2
     go_roundg (m1.length - (i + 1))
     case measure => have := HN.out; have := HC2.out; omega
     case rel =>
      refine ⟨i + 1, by simp, ⟨by have := HN.out; have := HC2.out; omega⟩, ⟨_, mapIs_ext HM4.out (fun s => ?_) (fun _ => rfl)⟩, ⟨HBD.out.grown HG4.out HBD.out.size (fun k hk => by cases hk; exact HMB.out)⟩⟩; rw [HST.out s]
      by_cases e : s = o
      ·
       subst e; rw [if_pos rfl, if_pos rfl, HW.out, Int.add_assoc]
      ·
       rw [if_neg e, if_neg (fun h => e h.symm), Int.add_zero]
    ·
     have c2b0 : decide ((i : Int) < (m1.length : Int)) = false := df_ (by omega); have c2b1 : decide (i < m1.length) = false := df_ c2; have hi : i = m1.length := by have := HN.out; omega
     obtain ⟨hs, hm⟩ := HM2_.out; have HMF := am_ (mapIs_ext (g' := (fun s => used s l3 + addS s (m1.zip m2))) hm (fun s => by rw [List.take_of_length_le (by rw [HZL.out]; omega)]) (fun _ => rfl)); clear hm c2 hi HM2_ HM; obtain ⟨wz, hwz⟩ : ∃ wz, wz = wr := ⟨_, rfl⟩; subst hwz; have HMZ := am_ (show mb + 1 ≤ wz.heap.size from HMF.out.lt); go_wp2
     go_loopg [45] m1.length (fun kq v45 w' => ∃ j : Nat, v45 = .int .i64 (j : Int) ∧ Aside0 (j + kq = m1.length) ∧ Aside0 (firstEx l9 (fun s => used s l3 + addS s (m1.zip m2)) (m1.drop j) j = firstEx l9 (fun s => used s l3 + addS s (m1.zip m2)) m1 0) ∧ Aside0 (Below wz.heap.size wz w'))
     case atStart => exact ⟨0, rfl, ⟨by omega⟩, ⟨rfl⟩, ⟨Below.refl _ _⟩⟩
     case round =>
      obtain ⟨j, rfl, HN3, HI3, HB3⟩ := hrel; have HBX := am_ (HBW.out.trans (HB3.out.mono HBW.out.size)); have HB1X := am_ (HBL.out.trans (HB3.out.mono HBL.out.size)); have HMR := am_ (HMF.out.below (HB3.out.mono HMZ.out)); have BKR := am_ ((HB1X.out.block gb GL.out).trans BK.out)
      by_cases c2 : j < m1.length
      ·
       have c2b0 : decide ((j : Int) < (m1.length : Int)) = true := de_ (by omega); have c2b1 : decide (j < m1.length) = true := de_ c2; have p1 : 0 ≤ (j : Int) := by omega
       have q1 : (j : Int) < (m1.length : Int) := by omega
       obtain ⟨ad1, e1, hx1⟩ := Kd.at_string (Kd.C_below HM1.out HBX.out) (j : Int) p1 q1; cases e1; rw [Int.toNat_natCast] at hx1
       have hrd1 : rdOf ByteArray.empty m1 (j : Int) = m1[j]'c2 := by
        unfold rdOf
        rw [Int.toNat_natCast, List.getD_eq_getElem?_getD, List.getElem?_eq_getElem c2]; rfl
       rw [hrd1] at hx1; have hcz_9 : wr.cell? ⟨gb, 9, none⟩ = some (.slice A9 l9.length c9) := (bc_ BKR.out 9).trans rfl; have HZO : Aside0 ((m1[j]'c2).size ≤ 140737488351232) := ⟨HZ.out.2 _ (List.getElem_mem c2)⟩; have HD := am_ (List.drop_eq_getElem_cons c2)
       have hw : IntKind.i64.wrap ((j : Int) + 1) = ((j + 1 : Nat) : Int) := by
        have := HZ.out.1; rw [i64_w]
        unfold wrap64
        omega
       have HC2 := am_ c2; clear hrd1; generalize m1[j]'c2 = o at *; replace p1 := eq_true p1; replace q1 := eq_true q1; clear c2; have h1 := HI3.out; rw [HD.out, firstEx_cons] at h1; have HEX := am_ (exc_f l9 HL9.out o (used o l3 + addS o (m1.zip m2)))
       by_cases c3 : exc l9 o (used o l3 + addS o (m1.zip m2)) = true
       ·
        rw [if_pos c3] at h1; rw [c3] at HEX; have H1 := am_ h1; clear h1 c3
        go_wp2_with (first | ((with_reducible refine gate_dst (N := 55) rfl ?_); refine wp_look ?hg (Operand.tmp 53) (Operand.tmp 54) ?hop mb (l3.length + i) (fun s => used s l3 + addS s (m1.zip m2)) hs ?hm ?own o HZO.out ?hx ?_; (case hop => rfl); (case hm => first | (go_simp; done) | (go_simp; rfl)); (case own => exact HMR.out); (case hx => first | (go_simp; done) | (go_simp; rfl)); (case hg => rfl)) | (go_at_call 30; refine (quota_exceeds.calls A9 c9 l9 o _ _ _ (Kd.C_below HR9.out HBX.out) HC9.out HEX.out).mono ?_; rintro e w5 ⟨rfl, hb5⟩; have HB5 := am_ hb5; clear hb5))
        go_ret2; exact ⟨by rw [← H1.out]; rfl, HBX.out.trans (HB5.out.mono HBX.out.size)⟩
       ·
        rw [if_neg c3] at h1; rw [Bool.eq_false_iff.mpr c3] at HEX; have H1 := am_ h1; clear h1 c3
        go_wp2_with (first | ((with_reducible refine gate_dst (N := 55) rfl ?_); refine wp_look ?hg (Operand.tmp 53) (Operand.tmp 54) ?hop mb (l3.length + i) (fun s => used s l3 + addS s (m1.zip m2)) hs ?hm ?own o HZO.out ?hx ?_; (case hop => rfl); (case hm => first | (go_simp; done) | (go_simp; rfl)); (case own => exact HMR.out); (case hx => first | (go_simp; done) | (go_simp; rfl)); (case hg => rfl)) | (go_at_call 30; refine (quota_exceeds.calls A9 c9 l9 o _ _ _ (Kd.C_below HR9.out HBX.out) HC9.out HEX.out).mono ?_; rintro e w5 ⟨rfl, hb5⟩; have HB5 := am_ hb5; clear hb5))
        go_roundg (m1.length - (j + 1))
        case measure => have := HN3.out; have := HC2.out; omega
        case rel => exact ⟨j + 1, by simp, ⟨by have := HN3.out; have := HC2.out; omega⟩, ⟨H1.out⟩, ⟨HB3.out.trans (HB5.out.mono HB3.out.size)⟩⟩
      ·
       have c2b0 : decide ((j : Int) < (m1.length : Int)) = false := df_ (by omega); have c2b1 : decide (j < m1.length) = false := df_ c2; have h1 := HI3.out; rw [List.drop_of_length_le (by omega)] at h1; have H1 := am_ h1; clear h1 c2; go_wp2; go_ret2; exact ⟨by rw [← H1.out]; rfl, HBX.out⟩
  ·
   have hA : admitS l3 l9 m1 m2 = (0, 8) := by
    unfold admitS
    rw [if_neg (not_not_intro e1), if_pos (by rw [Bool.eq_false_iff.mpr e2]; rfl)]
   have HBAD := am_ (bad_has B2 d2 m2); rw [Bool.eq_false_iff.mpr e2] at HBAD; have b0 : decide ((m1.length : Int) = (m2.length : Int)) = true := de_ (by rw [e1]); have b1 : decide (m1.length = m2.length) = true := de_ e1; have b2 : ((m1.length : Int) != (m2.length : Int)) = false := by rw [e1]; exact bne_self_eq_false _
   rw [hA]; clear hA e1 e2; go_enter Try.func11, Try.ntmps11
   go_wp2_with (first | ((with_reducible refine gate_dst (N := 3) rfl ?_); refine box_event ?hg (N := 3) ?hd (cs := #[.int .i64 a0, .int .i64 a1, .int .i64 a2, .slice A3 l3.length c3, .slice A4 l4.length c4, .slice A5 l5.length c5, .slice A6 l6.length c6, .slice A7 l7.length c7, .slice A8 l8.length c8, .slice A9 l9.length c9, .slice A10 l10.length c10]) (t := 31) ?hr ?_; (case hd => rfl); (case hg => rfl); (case hr => first | (go_simp; done) | (go_simp; rfl)); intro gb hg w1 hbox hb; have BK := am_ hbox; have HB := am_ hb; have GW := am_ (show w.heap.size ≤ gb by rw [hg]; exact Nat.le_refl _); clear hb hbox hg) | (go_at_call 28; refine (HBAD.out _ (Kd.C_below HM2.out HB.out) HL2.out).mono ?_; rintro e w9 ⟨rfl, rfl⟩))
   go_ret2; exact ⟨rfl, HB.out⟩
 ·
  have hA : admitS l3 l9 m1 m2 = (0, 8) := if_pos e1; have b0 : decide ((m1.length : Int) = (m2.length : Int)) = false := df_ (by omega); have b1 : decide (m1.length = m2.length) = false := df_ e1; have b2 : ((m1.length : Int) != (m2.length : Int)) = true := bne_iff_ne.2 (by omega); rw [hA]; clear hA e1; go_enter Try.func11, Try.ntmps11
  go_wp2_with ((with_reducible refine gate_dst (N := 3) rfl ?_); refine box_event ?hg (N := 3) ?hd (cs := #[.int .i64 a0, .int .i64 a1, .int .i64 a2, .slice A3 l3.length c3, .slice A4 l4.length c4, .slice A5 l5.length c5, .slice A6 l6.length c6, .slice A7 l7.length c7, .slice A8 l8.length c8, .slice A9 l9.length c9, .slice A10 l10.length c10]) (t := 31) ?hr ?_; (case hd => rfl); (case hg => rfl); (case hr => first | (go_simp; done) | (go_simp; rfl)); intro gb hg w1 hbox hb; have BK := am_ hbox; have HB := am_ hb; have GW := am_ (show w.heap.size ≤ gb by rw [hg]; exact Nat.le_refl _); clear hb hbox hg)
  go_ret2; exact ⟨rfl, HB.out⟩
def admitOk (l3 : List S66) (l9 : List S55) (m1 : List ByteArray) (m2 : List Int) : Prop := usedOk l3 ∧ l9.length ≤ 1000000000 ∧ (m1.length ≤ 1000 ∧ ∀ o ∈ m1, o.size ≤ 140737488351232) ∧ m2.length ≤ 1000000000
instance (l3 : List S66) (l9 : List S55) (m1 : List ByteArray) (m2 : List Int) : Decidable (admitOk l3 l9 m1 m2) := inferInstanceAs (Decidable (_ ∧ _))
def quota_Admit.f (_a0 _a1 _a2 : Int) (l3 : List S66) (_l4 : List S133) (_l5 : List S135) (_l6 : List S137) (_l7 : List S139) (_l8 : List S141) (l9 : List S55) (_l10 : List S143) (m1 : List ByteArray) (m2 : List Int) : Option (Int × Int) := if admitOk l3 l9 m1 m2 then some (admitS l3 l9 m1 m2) else none
theorem quota_Admit.calls (a0 a1 a2 : Int) (A3 : Option Addr) (c3 : Nat) (l3 : List S66) (A4 : Option Addr) (c4 : Nat) (l4 : List S133) (A5 : Option Addr) (c5 : Nat) (l5 : List S135) (A6 : Option Addr) (c6 : Nat) (l6 : List S137) (A7 : Option Addr) (c7 : Nat) (l7 : List S139) (A8 : Option Addr) (c8 : Nat) (l8 : List S141) (A9 : Option Addr) (c9 : Nat) (l9 : List S55) (A10 : Option Addr) (c10 : Nat) (l10 : List S143) (B1 : Option Addr) (d1 : Nat) (m1 : List ByteArray) (B2 : Option Addr) (d2 : Nat) (m2 : List Int) (r1 r2 : Int) (w : World) (hr3 : Kd.C k66 w A3 l3.length l3) (_hc3 : l3.length ≤ c3) (_hr4 : Kd.C k133 w A4 l4.length l4) (_hc4 : l4.length ≤ c4) (_hr5 : Kd.C k135 w A5 l5.length l5) (_hc5 : l5.length ≤ c5) (_hr6 : Kd.C k137 w A6 l6.length l6) (_hc6 : l6.length ≤ c6) (_hr7 : Kd.C k139 w A7 l7.length l7) (_hc7 : l7.length ≤ c7) (_hr8 : Kd.C k141 w A8 l8.length l8) (_hc8 : l8.length ≤ c8) (hr9 : Kd.C k55 w A9 l9.length l9) (hc9 : l9.length ≤ c9) (_hr10 : Kd.C k143 w A10 l10.length l10) (_hc10 : l10.length ≤ c10) (hm1 : Kd.C Kd.string w B1 m1.length m1) (_hd1 : m1.length ≤ d1) (hm2 : Kd.C (Kd.int .i64) w B2 m2.length m2) (_hd2 : m2.length ≤ d2) (h : quota_Admit.f a0 a1 a2 l3 l4 l5 l6 l7 l8 l9 l10 m1 m2 = some (r1, r2)) :
  Calls Try.prog 11 #[.agg #[.int .i64 a0, .int .i64 a1, .int .i64 a2, .slice A3 l3.length c3, .slice A4 l4.length c4, .slice A5 l5.length c5, .slice A6 l6.length c6, .slice A7 l7.length c7, .slice A8 l8.length c8, .slice A9 l9.length c9, .slice A10 l10.length c10], .slice B1 m1.length d1, .slice B2 m2.length d2] w fun e w' => e = .returned (.tuple #[.int .i64 r1, .int .i64 r2]) ∧ Below w.heap.size w w' := by
 unfold quota_Admit.f at h
 by_cases hl : admitOk l3 l9 m1 m2
 ·
  rw [if_pos hl] at h; have e := si_ h; obtain ⟨rfl, rfl⟩ : (admitS l3 l9 m1 m2).1 = r1 ∧ (admitS l3 l9 m1 m2).2 = r2 := ⟨by rw [e], by rw [e]⟩; exact admit_walk a0 a1 a2 A3 c3 l3 A4 c4 l4 A5 c5 l5 A6 c6 l6 A7 c7 l7 A8 c8 l8 A9 c9 l9 A10 c10 l10 B1 d1 m1 B2 d2 m2 w hr3 hr9 hm1 hm2 hc9 hl.1 hl.2.1 hl.2.2.1 hl.2.2.2
 ·
  rw [if_neg hl] at h; cases h
end Go.Proofs.Ytbadelcnaeijkaa.Q
end
section
namespace Go.Proofs.Ytbadelcnaeijkaa.Q
open Go.RowKit Go.Proofs.YtbadelcnaeijkaaW.PrintWords Go.Proofs.YtbadelcnaeijkaaW.PrintLast Go.Proofs.YtbadelcnaeijkaaW.PrintMore
attribute [local go_sem] max2_int min2_int max_two min_two max_three min_three max_four min_four
attribute [local go_sem ↓] isSome_setCell
attribute [local go_sem] string_gtr
set_option linter.unusedVariables false
set_option linter.unusedSimpArgs false
end Go.Proofs.Ytbadelcnaeijkaa.Q
end
section
namespace Go.Proofs.Ytbadelcnaeijkaa.Q
open Go.RowKit Go.Proofs.YtbadelcnaeijkaaW.PrintWords Go.Proofs.YtbadelcnaeijkaaW.PrintLast Go.Proofs.YtbadelcnaeijkaaW.PrintMore
attribute [local go_sem] max2_int min2_int max_two min_two max_three min_three max_four min_four
attribute [local go_sem ↓] isSome_setCell
attribute [local go_sem] string_gtr
set_option linter.unusedVariables false
set_option linter.unusedSimpArgs false
def quota_number.f (a0 : Int) : Option (Bool) := if a0 ≥ 0 then (some (decide (a0 ≤ 1125899906842624))) else (some false)
set_option maxHeartbeats 8000000 in
set_option maxRecDepth 100000 in
theorem quota_number.calls (a0 : Int) (r : Bool) (w : World) (h : quota_number.f a0 = some r) :
  Calls Try.prog 27 #[.int .i64 a0] w fun e w' => e = .returned (.bool r) ∧ Drawn0 w w' := by
 have H : (if a0 ≥ 0 then (some (decide (a0 ≤ 1125899906842624))) else (some false)) = some r := h; clear h
 by_cases c2 : a0 ≥ 0
 ·
  rw [if_pos c2] at H; have c2b0 : decide (0 ≤ a0) = true := de_ c2; clear c2; obtain rfl := si_ H; go_enter Try.func27, Try.ntmps27; go_wp2; go_ret; exact ⟨by first | rfl | (simp; done) | (simp [*]; done), by repeat (first | exact Drawn0.refl _ | apply Drawn0.step)⟩
 ·
  rw [if_neg c2] at H; have c2b0 : decide (0 ≤ a0) = false := df_ c2; clear c2; obtain rfl := si_ H; go_enter Try.func27, Try.ntmps27; go_wp2; go_ret; exact ⟨by first | rfl | (simp; done) | (simp [*]; done), by repeat (first | exact Drawn0.refl _ | apply Drawn0.step)⟩
def quota_sum.l0 : Nat → Int → List Int → Int → Int → Option (Int × Bool)
 | 0, _, _, _, _ => none
 | k + 1, x4, x7, x8, x9 => if x9 < x8 then (if 0 ≤ x9 then (if x9 < (x7.length : Int) then ((quota_number.f (rd x7 x9)).bind fun t152 => (if t152 = true then ((quota_number.f (wrap64 (x4 + (rd x7 x9)))).bind fun t153 => (if t153 = true then (quota_sum.l0 k (wrap64 (x4 + (rd x7 x9))) x7 x8 (wrap64 (x9 + 1))) else (some (0, false)))) else (some (0, false)))) else (none)) else (none)) else (some (x4, true))
def quota_sum.f (k : Nat) (l0 : List Int) : Option (Int × Bool) := quota_sum.l0 k 0 l0 (l0.length : Int) 0
set_option maxHeartbeats 8000000 in
set_option maxRecDepth 100000 in
theorem quota_sum.calls (k : Nat) (A0 : Option Addr) (c0 : Nat) (l0 : List Int) (r1 : Int) (r2 : Bool) (w : World) (hr0 : Kd.C (Kd.int .i64) w A0 l0.length l0) (hc0 : l0.length ≤ c0) (h : quota_sum.f k l0 = some (r1, r2)) :
  Calls Try.prog 31 #[.slice A0 l0.length c0] w fun e w' => e = .returned (.tuple #[.int .i64 r1, .bool r2]) ∧ Drawn0 w w' := by
 have HR0 := am_ hr0; have HC0 := am_ hc0; clear hr0 hc0; have H : (quota_sum.l0 k 0 l0 (l0.length : Int) 0) = some (r1, r2) := h; clear h; have H' := am_ H; clear H; go_enter Try.func31, Try.ntmps31; go_wp2
 go_loopg [4, 9] k (fun kq v4 v9 w' => ∃ (x4_1 : Int) (x9_1 : Int), v4 = .int .i64 x4_1 ∧ v9 = .int .i64 x9_1 ∧ Aside0 (quota_sum.l0 kq x4_1 l0 (l0.length : Int) x9_1 = some (r1, r2)) ∧ Aside0 (kq ≤ k) ∧ Drawn0 w w')
 case atStart => exact ⟨(0), (0), (by first | rfl | (simp; done) | (simp [*]; done)), (by first | rfl | (simp; done) | (simp [*]; done)), H', ⟨Nat.le_refl _⟩, by repeat (first | exact Drawn0.refl _ | apply Drawn0.step)⟩
 case round =>
  clear H'; obtain ⟨x4_1, x9_1, rfl, rfl, HA, HK1, ⟨m1, rfl⟩⟩ := hrel; cases gk with
  | zero => exact absurd HA.out (by simp [quota_sum.l0])
  | succ k1 =>
   have H := HA.out; clear HA; simp only [quota_sum.l0] at H
   by_cases c2 : x9_1 < (l0.length : Int)
   ·
    rw [if_pos c2] at H; have c2b0 : decide (x9_1 < (l0.length : Int)) = true := de_ c2; clear c2
    by_cases c3 : 0 ≤ x9_1
    ·
     rw [if_pos c3] at H; have c3b0 : decide (0 ≤ x9_1) = true := de_ c3; clear c3
     by_cases c4 : x9_1 < (l0.length : Int)
     ·
      rw [if_pos c4] at H; have c4b0 : decide (x9_1 < (l0.length : Int)) = true := de_ c4; clear c4; replace H := Option.bind_eq_some_iff.mp H; obtain ⟨t152, A50, H⟩ := H; replace H : (if t152 = true then ((quota_number.f (wrap64 (x4_1 + (rd l0 x9_1)))).bind fun t153 => (if t153 = true then (quota_sum.l0 k1 (wrap64 (x4_1 + (rd l0 x9_1))) l0 (l0.length : Int) (wrap64 (x9_1 + 1))) else (some (0, false)))) else (some (0, false))) = some (r1, r2) := H; have A5 := am_ A50; clear A50
      by_cases c6 : t152 = true
      ·
       subst c6; have H1 : ((quota_number.f (wrap64 (x4_1 + (rd l0 x9_1)))).bind fun t153 => (if t153 = true then (quota_sum.l0 k1 (wrap64 (x4_1 + (rd l0 x9_1))) l0 (l0.length : Int) (wrap64 (x9_1 + 1))) else (some (0, false)))) = some (r1, r2) := by rw [if_pos rfl] at H; exact H
       clear H; have H := H1; clear H1; replace H := Option.bind_eq_some_iff.mp H; obtain ⟨t153, A70, H⟩ := H; replace H : (if t153 = true then (quota_sum.l0 k1 (wrap64 (x4_1 + (rd l0 x9_1))) l0 (l0.length : Int) (wrap64 (x9_1 + 1))) else (some (0, false))) = some (r1, r2) := H; have A7 := am_ A70; clear A70
       by_cases c8 : t153 = true
       ·
        subst c8; have H1 : (quota_sum.l0 k1 (wrap64 (x4_1 + (rd l0 x9_1))) l0 (l0.length : Int) (wrap64 (x9_1 + 1))) = some (r1, r2) := by rw [if_pos rfl] at H; exact H
        clear H; have H := H1; clear H1; have H' := am_ H; clear H; have p151 : 0 ≤ (x9_1 : Int) := ot_ (by first | (with_reducible assumption) | assumption); have q151 : x9_1 < (l0.length : Int) := ot_ (by first | (with_reducible assumption) | assumption); obtain ⟨ad151, e151, hx151_0⟩ := Kd.at_int HR0.out x9_1 p151 q151; cases e151; replace p151 := eq_true p151; replace q151 := eq_true q151
        go_wp2_with (first | ((with_reducible refine gate_callee (f := 27) rfl ?_); refine goesL_ (some 14) rfl rfl Try.func27 (by kernel_rfl) rfl #[.int .i64 (rd l0 x9_1)] rfl au_ ?_; (with_reducible refine (quota_number.calls (rd l0 x9_1) true _ A5.out).mono ?_); rintro e w' ⟨rfl, ⟨nd, rfl⟩⟩; refine ⟨_, rfl, ?_⟩) | (go_at_call 27; (with_reducible refine (quota_number.calls (wrap64 (x4_1 + (rd l0 x9_1))) true _ A7.out).mono ?_); rintro e w' ⟨rfl, ⟨nd, rfl⟩⟩))
        go_roundg k1
        case measure => have := HK1.out; omega
        case rel => exact ⟨(wrap64 (x4_1 + (rd l0 x9_1))), (wrap64 (x9_1 + 1)), (by first | rfl | (simp; done) | (simp [*]; done)), (by first | rfl | (simp; done) | (simp [*]; done)), H', ⟨by have := HK1.out; omega⟩, by repeat (first | exact Drawn0.refl _ | apply Drawn0.step)⟩
       ·
        replace c8 := Bool.eq_false_iff.mpr c8; subst c8; have H1 : (some (0, false)) = some (r1, r2) := by rw [if_neg (show ¬ (false = true) by decide)] at H; exact H
        clear H; have H := H1; clear H1; simp only [Option.some.injEq, Prod.mk.injEq] at H; obtain ⟨rfl, rfl⟩ := H; have p151 : 0 ≤ (x9_1 : Int) := ot_ (by first | (with_reducible assumption) | assumption); have q151 : x9_1 < (l0.length : Int) := ot_ (by first | (with_reducible assumption) | assumption); obtain ⟨ad151, e151, hx151_0⟩ := Kd.at_int HR0.out x9_1 p151 q151; cases e151; replace p151 := eq_true p151; replace q151 := eq_true q151
        go_wp2_with (first | ((with_reducible refine gate_callee (f := 27) rfl ?_); refine goesL_ (some 14) rfl rfl Try.func27 (by kernel_rfl) rfl #[.int .i64 (rd l0 x9_1)] rfl au_ ?_; (with_reducible refine (quota_number.calls (rd l0 x9_1) true _ A5.out).mono ?_); rintro e w' ⟨rfl, ⟨nd, rfl⟩⟩; refine ⟨_, rfl, ?_⟩) | (go_at_call 27; (with_reducible refine (quota_number.calls (wrap64 (x4_1 + (rd l0 x9_1))) false _ A7.out).mono ?_); rintro e w' ⟨rfl, ⟨nd, rfl⟩⟩))
        go_ret2; exact ⟨by first | rfl | (simp; done) | (simp [*]; done), by repeat (first | exact Drawn0.refl _ | apply Drawn0.step)⟩
      ·
       replace c6 := Bool.eq_false_iff.mpr c6; subst c6; have H1 : (some (0, false)) = some (r1, r2) := by rw [if_neg (show ¬ (false = true) by decide)] at H; exact H
       clear H; have H := H1; clear H1; simp only [Option.some.injEq, Prod.mk.injEq] at H; obtain ⟨rfl, rfl⟩ := H; have p151 : 0 ≤ (x9_1 : Int) := ot_ (by first | (with_reducible assumption) | assumption); have q151 : x9_1 < (l0.length : Int) := ot_ (by first | (with_reducible assumption) | assumption); obtain ⟨ad151, e151, hx151_0⟩ := Kd.at_int HR0.out x9_1 p151 q151; cases e151; replace p151 := eq_true p151; replace q151 := eq_true q151
       go_wp2_with (first | ((with_reducible refine gate_callee (f := 27) rfl ?_); refine goesL_ (some 14) rfl rfl Try.func27 (by kernel_rfl) rfl #[.int .i64 (rd l0 x9_1)] rfl au_ ?_; (with_reducible refine (quota_number.calls (rd l0 x9_1) false _ A5.out).mono ?_); rintro e w' ⟨rfl, ⟨nd, rfl⟩⟩; refine ⟨_, rfl, ?_⟩))
       go_ret2; exact ⟨by first | rfl | (simp; done) | (simp [*]; done), by repeat (first | exact Drawn0.refl _ | apply Drawn0.step)⟩
     ·
      rw [if_neg c4] at H; exact absurd H (by simp)
    ·
     rw [if_neg c3] at H; exact absurd H (by simp)
   ·
    rw [if_neg c2] at H; have c2b0 : decide (x9_1 < (l0.length : Int)) = false := df_ c2; clear c2; simp only [Option.some.injEq, Prod.mk.injEq] at H; obtain ⟨rfl, rfl⟩ := H; go_wp2; go_ret2; exact ⟨by first | rfl | (simp; done) | (simp [*]; done), by repeat (first | exact Drawn0.refl _ | apply Drawn0.step)⟩
end Go.Proofs.Ytbadelcnaeijkaa.Q
end
section
namespace Go.Proofs.Ytbadelcnaeijkaa.Q
open Go.RowKit Go.Proofs.YtbadelcnaeijkaaW.PrintWords Go.Proofs.YtbadelcnaeijkaaW.PrintLast Go.Proofs.YtbadelcnaeijkaaW.PrintMore
attribute [local go_sem] max2_int min2_int max_two min_two max_three min_three max_four min_four
attribute [local go_sem ↓] isSome_setCell
attribute [local go_sem] string_gtr
set_option linter.unusedVariables false
set_option linter.unusedSimpArgs false
def RowAt (W : World) (b n t : Nat) (f : Nat → Value) : Prop := ∃ cs, W.heap[b]? = some (.cells cs t (0, 0)) ∧ cs.size = n ∧ ∀ j, j < n → cs[j]? = some (f j)
section
variable {W W' : World} {b n t : Nat} {f g : Nat → Value}
theorem RowAt.cell (h : RowAt W b n t f) (j : Nat) (hj : j < n) : W.cell? ⟨b, j, none⟩ = some (f j) := by
  obtain ⟨cs, h1, h2, h3⟩ := h
  unfold World.cell?
  rw [h1]
  exact h3 j hj
theorem RowAt.frozen (h : RowAt W b n t f) (j : Nat) : W.frozen? ⟨b, j, none⟩ = false := by
  obtain ⟨cs, h1, h2, h3⟩ := h
  unfold World.frozen?
  rw [h1]
  simp
theorem RowAt.congr (h : RowAt W b n t f) (e : ∀ j, j < n → f j = g j) : RowAt W b n t g := by
  obtain ⟨cs, h1, h2, h3⟩ := h
  exact ⟨cs, h1, h2, fun j hj => by rw [h3 j hj, e j hj]⟩
theorem RowAt.heap (h : RowAt W b n t f) (e : W'.heap[b]? = W.heap[b]?) : RowAt W' b n t f := by
  obtain ⟨cs, h1, h2, h3⟩ := h
  exact ⟨cs, e.trans h1, h2, h3⟩
theorem RowAt.set (h : RowAt W b n t f) (i : Nat) (v : Value) : RowAt (W.setCell ⟨b, i, none⟩ v) b n t (fun j => if j = i then v else f j) := by
  obtain ⟨cs, h1, h2, h3⟩ := h
  refine ⟨cs.setIfInBounds i v, ?_, by rw [Array.size_setIfInBounds, h2], fun j hj => ?_⟩
  · show (W.heap.modify b _)[b]? = _
    rw [Array.getElem?_modify, if_pos rfl, h1]
    rfl
  · rw [Array.getElem?_setIfInBounds]
    by_cases e : i = j
    · subst e
      rw [if_pos rfl, if_pos (by omega)]
      show some v = some (if i = i then v else f i)
      rw [if_pos rfl]
    · rw [if_neg e]
      show _ = some (if j = i then v else f j)
      rw [if_neg (fun x => e x.symm)]
      exact h3 j hj
theorem RowAt.other (h : RowAt W b n t f) (p : Nat) (i : Nat) (v : Value) (hp : b ≠ p) : RowAt (W.setCell ⟨p, i, none⟩ v) b n t f := h.heap (Below.heap_setCell W ⟨p, i, none⟩ v b hp)
theorem RowAt.draw (h : RowAt W b n t f) (m : Nat) : RowAt (W.drewN m) b n t f := h.heap rfl
theorem RowAt.alloc (h : RowAt W b n t f) (o : Obj) : RowAt (W.alloc o) b n t f := h.heap (Below.heap_alloc W o b (by obtain ⟨cs, h1, _⟩ := h; exact (Array.getElem?_eq_some_iff.1 h1).1))
end
set_option maxRecDepth 100000 in
theorem wp_make {W : World} {ops : Array Oper} {rest : List Oper} {o : Oper} {a : Act} {Q : Exit → Act → World → Prop}
    (hg : o.guard = none) (x : Operand) (t e : Nat) (hop : o.op = .makeSlice t x x) (n : Nat) (hx : a.eval x = .int .i64 n) (hn : n ≤ 1000000000)
    (ht : Try.prog.underlying t = some (.slice e)) (z : Value) (hinfo : (Try.prog.info? e).map (fun i => (i.zero, i.size, i.bytes)) = some (some z, 1, 8)) (hz : z.cells = #[z])
    (h : ∀ s W', s = W.heap.size → RowAt W' s n e (fun _ => z) → W'.heap.size = s + 1 → Below s W W' → wpList Try.prog ops Q rest (a.put o.dst (.slice (some ⟨s, 0, none⟩) n n)) W') :
    wpList Try.prog ops Q (o :: rest) a W := by
  obtain ⟨i0, hi, hzz⟩ := Option.map_eq_some_iff.1 hinfo
  simp only [Prod.mk.injEq] at hzz
  obtain ⟨hz0, hz1, hz2⟩ := hzz
  have hr := run_make (P := Try.prog) W t e i0 z ht hi hz0 .i64 .i64 (n : Int) (n : Int) (by omega) (by omega) (by rw [hz2]; omega) (by omega)
  simp only [Int.toNat_natCast] at hr
  rw [hz1, Nat.mul_one] at hr
  refine Kd.event_run hg (by simp [execOp, hop, hx, hr]) (h _ _ rfl ⟨madeCells z.cells n, blk_new W _, ?_, ?_⟩ ?_ (below_alloc (Below.refl _ _) _))
  · simp [madeCells]
  · intro j hj
    simp [madeCells, hz, hj, Nat.mod_one]
  · show (W.heap.push _).size = _
    rw [Array.size_push]
end Go.Proofs.Ytbadelcnaeijkaa.Q
end
