import Derived.Test.YtlcgepmacgbciaaDoorKPathBlocks6
set_option linter.unusedVariables false
set_option linter.unusedSimpArgs false
section
namespace Go.Proofs.YtlcgepmacgbciaaDoor.Pth
open Go.RowKit Go.Proofs.YtlcgepmacgbciaaDoor.Q Go.Proofs.YtlcgepmacgbciaaDoorW.PrintWords Go.Proofs.YtlcgepmacgbciaaDoorW.PrintMore Go.Proofs.YtlcgepmacgbciaaDoorW.EvMore
theorem Under_ev (a b : ByteArray) : Ev (fun k => path_Under.f k a b) (underS (bs a) (bs b)) := by
  unfold path_Under.f underS
  refine Ev.both (Parse_ev a) ?_
  rw [toList_bs]
  unfold outS
  by_cases h1 : (parseS false (bs a)).2 = 0
  · refine Ev.pos h1 ?_
    rw [decide_eq_true h1, Bool.true_and]
    by_cases h2 : bs b = [47]
    · refine Ev.pos h2 (Ev.done fun _ => ?_)
      rw [decide_eq_true h2, Bool.true_or]
    · refine Ev.neg h2 (Ev.both (Parse_ev b) ?_)
      rw [decide_eq_false h2, Bool.false_or]
      unfold outS
      by_cases h3 : (parseS false (bs b)).2 = 0
      · refine Ev.pos h3 ?_
        rw [decide_eq_true h3, Bool.true_and]
        obtain ⟨r, _, _, e3, _, _, e6⟩ := parseS_ok h1
        obtain ⟨r', _, _, f3, _, _, f6⟩ := parseS_ok h3
        rw [e3, f3]
        simp only [List.length_map]
        by_cases h4 : (pieces r').length ≤ (pieces r).length
        · refine Ev.pos (by omega) (Ev.pos (by omega) ?_)
          rw [Int.toNat_natCast]
          have hq : slices_Equal_string_string.f ((pieces r').map mk) (((pieces r).map mk).take (pieces r').length) = some ((pieces r').isPrefixOf (pieces r)) := by
            unfold slices_Equal_string_string.f
            rw [if_pos (by rw [List.length_take, List.length_map, List.length_map]; omega)]
            congr 1
            rw [Bool.eq_iff_iff, decide_eq_true_eq, List.isPrefixOf_iff_prefix, List.prefix_iff_eq_take, ← List.map_take]
            exact ⟨fun e => map_mk_inj e, fun e => congrArg (List.map mk) e⟩
          exact Ev.bindS hq (Ev.done fun _ => rfl)
        · refine Ev.neg (by omega) (Ev.done fun _ => ?_)
          congr 1
          symm
          rw [Bool.eq_false_iff]
          intro h
          exact h4 (List.isPrefixOf_iff_prefix.1 h).length_le
      · refine Ev.neg h3 (Ev.done fun _ => ?_)
        rw [decide_eq_false h3, Bool.false_and]
  · refine Ev.neg h1 (Ev.done fun _ => ?_)
    rw [decide_eq_false h1, Bool.false_and]
theorem begins_ev (l m : List B) (hl : l.length ≤ 1000) : Ev (fun k => tapearchiveref19_begins.f k (l.map mk) (m.map mk)) (m.isPrefixOf l) := by
  unfold tapearchiveref19_begins.f
  rw [List.length_map, List.length_map]
  by_cases h : l.length < m.length
  · refine Ev.pos (by omega) (Ev.done fun _ => ?_)
    congr 1
    symm
    rw [Bool.eq_false_iff]
    intro e
    have := (List.isPrefixOf_iff_prefix.1 e).length_le
    omega
  · refine Ev.neg (by omega) ?_
    have go : ∀ (d i : Nat), i + d = m.length → Ev (fun k => tapearchiveref19_begins.l0 k (l.map mk) (m.map mk) (i : Int)) ((m.drop i).isPrefixOf (l.drop i)) := by
      intro d
      induction d with
      | zero =>
        intro i hi
        refine Ev.next (fun k => by rw [tapearchiveref19_begins.l0]) (Ev.neg (by rw [List.length_map]; omega) (Ev.done fun _ => ?_))
        rw [List.drop_of_length_le (by omega : m.length ≤ i)]
        rfl
      | succ d ih =>
        intro i hi
        have h1 : i < m.length := by omega
        have h2 : i < l.length := by omega
        refine Ev.next (fun k => by rw [tapearchiveref19_begins.l0]) (Ev.pos (by rw [List.length_map]; omega) (Ev.pos (by omega) (Ev.pos (by rw [List.length_map]; omega) ?_)))
        rw [rd_nat (by rw [List.length_map]; exact h2), rd_nat (by rw [List.length_map]; exact h1), List.getElem_map, List.getElem_map, mk_toList, mk_toList, List.drop_eq_getElem_cons h1, List.drop_eq_getElem_cons h2, List.isPrefixOf]
        by_cases e : l[i] = m[i]
        · refine Ev.pos e ?_
          rw [wrap_in (by omega) (by omega), e, beq_self_eq_true, Bool.true_and]
          exact ih (i + 1) (by omega)
        · refine Ev.neg e (Ev.done fun _ => ?_)
          rw [beq_false_of_ne (fun x => e x.symm), Bool.false_and]
    exact go m.length 0 (by omega)
theorem rUnder_ev (a b : ByteArray) : Ev (fun k => tapearchiveref19_Under.f k a b) (underS (bs a) (bs b)) := by
  unfold tapearchiveref19_Under.f underS
  refine Ev.both (rParse_ev a) ?_
  rw [toList_bs]
  unfold outS
  by_cases h1 : (parseS false (bs a)).2 = 0
  · refine Ev.pos h1 ?_
    rw [decide_eq_true h1, Bool.true_and]
    by_cases h2 : bs b = [47]
    · refine Ev.pos h2 (Ev.done fun _ => ?_)
      rw [decide_eq_true h2, Bool.true_or]
    · refine Ev.neg h2 (Ev.both (rParse_ev b) ?_)
      rw [decide_eq_false h2, Bool.false_or]
      unfold outS
      by_cases h3 : (parseS false (bs b)).2 = 0
      · refine Ev.pos h3 ?_
        rw [decide_eq_true h3, Bool.true_and]
        obtain ⟨r, _, _, e3, _, _, e6⟩ := parseS_ok h1
        obtain ⟨r', _, _, f3, _, _, f6⟩ := parseS_ok h3
        rw [e3, f3]
        exact Ev.both (begins_ev _ _ (by omega)) (Ev.done fun _ => rfl)
      · refine Ev.neg h3 (Ev.done fun _ => ?_)
        rw [decide_eq_false h3, Bool.false_and]
  · refine Ev.neg h1 (Ev.done fun _ => ?_)
    rw [decide_eq_false h1, Bool.false_and]
theorem bl_flip (x y : B) : (!(Op.bytesLess x y || x == y)) = Op.bytesLess y x := less_flip x y
theorem bl_irrefl (x : B) : Op.bytesLess x x = false := by
  have := bl_flip x x
  rw [beq_self_eq_true, Bool.or_true] at this
  exact this.symm
theorem bl_asymm {x y : B} (h : Op.bytesLess x y = true) : Op.bytesLess y x = false := by
  have := bl_flip x y
  rw [h, Bool.true_or] at this
  exact this.symm
theorem bl_total {x y : B} (h : x ≠ y) (h2 : Op.bytesLess x y = false) : Op.bytesLess y x = true := by
  have := bl_flip x y
  rw [h2, Bool.false_or, beq_false_of_ne h] at this
  exact this.symm
theorem lessL_block : ∀ {a b c : List B}, a <+: c → lessL a b = true → lessL b c = true → a <+: b
  | [], b, _, _, _, _ => List.nil_prefix
  | _ :: _, [], _, _, h, _ => by simp [lessL] at h
  | _ :: _, _ :: _, [], h, _, _ => by simp at h
  | x :: a, y :: b, z :: c, h, h1, h2 => by
    rw [List.cons_prefix_cons] at h ⊢
    obtain ⟨rfl, h⟩ := h
    unfold lessL at h1 h2
    by_cases e : x = y
    · subst e
      rw [if_pos rfl] at h1 h2
      exact ⟨rfl, lessL_block h h1 h2⟩
    · rw [if_neg e] at h1
      rw [if_neg fun e2 => e e2.symm, bl_asymm h1] at h2
      cases h2
theorem compare_f (a b : ByteArray) : cmp_Compare_string.f a b = some (if Op.bytesLess (bs a) (bs b) = true then -1 else if Op.bytesLess (bs b) (bs a) = true then 1 else 0) := by
  unfold cmp_Compare_string.f cmp_isNaN_string.f
  simp only [bne_self_eq_false, Option.bind_some, Bool.false_eq_true, if_false, toList_bs]
  split
  · rfl
  · split <;> rfl
theorem compL_ev (l m : List B) (hl : l.length ≤ 1000) (hm : m.length ≤ 1000) : ∃ v : Int, Ev (fun k => slices_CompareFunc_string_string_string_string_cmp_Compare_string.f k (l.map mk) (m.map mk)) v ∧ decide (v < 0) = lessL l m := by
  unfold slices_CompareFunc_string_string_string_string_cmp_Compare_string.f
  have go : ∀ (d i : Nat), i + d = l.length → i ≤ m.length → ∃ v : Int, Ev (fun k => slices_CompareFunc_string_string_string_string_cmp_Compare_string.l0 k (l.map mk) (m.map mk) (l.map mk) (((l.map mk).length : Nat) : Int) (i : Int)) v ∧ decide (v < 0) = lessL (l.drop i) (m.drop i) := by
    intro d
    induction d with
    | zero =>
      intro i hi him
      by_cases h : l.length < m.length
      · refine ⟨-1, Ev.next (fun k => by rw [slices_CompareFunc_string_string_string_string_cmp_Compare_string.l0]) (Ev.neg (by rw [List.length_map]; omega) (Ev.pos (by rw [List.length_map, List.length_map]; omega) (Ev.done fun _ => rfl))), ?_⟩
        rw [List.drop_of_length_le (by omega : l.length ≤ i), List.drop_eq_getElem_cons (by omega : i < m.length)]
        rfl
      · refine ⟨0, Ev.next (fun k => by rw [slices_CompareFunc_string_string_string_string_cmp_Compare_string.l0]) (Ev.neg (by rw [List.length_map]; omega) (Ev.neg (by rw [List.length_map, List.length_map]; omega) (Ev.done fun _ => rfl))), ?_⟩
        rw [List.drop_of_length_le (by omega : l.length ≤ i), List.drop_of_length_le (by omega : m.length ≤ i)]
        rfl
    | succ d ih =>
      intro i hi him
      have h1 : i < l.length := by omega
      by_cases h2 : i < m.length
      · obtain ⟨v, hv1, hv2⟩ := ih (i + 1) (by omega) (by omega)
        have hr1 : rdOf ByteArray.empty (l.map mk) (i : Int) = mk l[i] := by rw [rd_nat (by rw [List.length_map]; exact h1), List.getElem_map]
        have hr2 : rdOf ByteArray.empty (m.map mk) (i : Int) = mk m[i] := by rw [rd_nat (by rw [List.length_map]; exact h2), List.getElem_map]
        have hc := compare_f (mk l[i]) (mk m[i])
        rw [bs_of_mk, bs_of_mk] at hc
        rw [List.drop_eq_getElem_cons h1, List.drop_eq_getElem_cons h2]
        unfold lessL
        by_cases e : l[i] = m[i]
        · rw [e, bl_irrefl] at hc
          refine ⟨v, Ev.next (fun k => by rw [slices_CompareFunc_string_string_string_string_cmp_Compare_string.l0]) (Ev.pos (by rw [List.length_map]; omega) (Ev.pos (by omega) (Ev.pos (by rw [List.length_map]; omega) (Ev.neg (by rw [List.length_map]; omega) (Ev.pos (by rw [List.length_map]; omega) ?_))))), ?_⟩
          · rw [hr1, hr2, e]
            refine Ev.bindS hc (Ev.pos rfl ?_)
            rw [wrap_in (by omega) (by omega)]
            exact hv1
          · rw [if_pos e]; exact hv2
        · rw [if_neg e]
          refine ⟨if Op.bytesLess l[i] m[i] = true then -1 else 1, Ev.next (fun k => by rw [slices_CompareFunc_string_string_string_string_cmp_Compare_string.l0]) (Ev.pos (by rw [List.length_map]; omega) (Ev.pos (by omega) (Ev.pos (by rw [List.length_map]; omega) (Ev.neg (by rw [List.length_map]; omega) (Ev.pos (by rw [List.length_map]; omega) ?_))))), ?_⟩
          · rw [hr1, hr2]
            refine Ev.bindS hc ?_
            cases hb : Op.bytesLess l[i] m[i] with
            | true => exact Ev.neg (by simp) (Ev.done fun _ => by simp)
            | false =>
              rw [bl_total e hb]
              exact Ev.neg (by simp) (Ev.done fun _ => by simp)
          · cases hb : Op.bytesLess l[i] m[i] <;> rfl
      · refine ⟨1, Ev.next (fun k => by rw [slices_CompareFunc_string_string_string_string_cmp_Compare_string.l0]) (Ev.pos (by rw [List.length_map]; omega) (Ev.pos (by omega) (Ev.pos (by rw [List.length_map]; omega) (Ev.pos (by rw [List.length_map]; omega) (Ev.done fun _ => rfl))))), ?_⟩
        rw [List.drop_eq_getElem_cons h1, List.drop_of_length_le (by omega : m.length ≤ i)]
        rfl
  exact go l.length 0 (by omega) (by omega)
theorem Less_ev (a b : ByteArray) : Ev (fun k => path_Less.f k a b) (lessS (bs a) (bs b)) := by
  unfold path_Less.f lessS
  refine Ev.both (Parse_ev a) (Ev.both (Parse_ev b) ?_)
  unfold outS
  by_cases h1 : (parseS false (bs a)).2 = 0
  · refine Ev.pos h1 ?_
    by_cases h2 : (parseS false (bs b)).2 = 0
    · refine Ev.pos h2 ?_
      obtain ⟨r, _, _, e3, _, _, e6⟩ := parseS_ok h1
      obtain ⟨r', _, _, f3, _, _, f6⟩ := parseS_ok h2
      rw [decide_eq_true h1, decide_eq_true h2, Bool.true_and, Bool.true_and, e3, f3]
      obtain ⟨v, hv1, hv2⟩ := compL_ev (pieces r) (pieces r') (by omega) (by omega)
      exact Ev.both hv1 (Ev.done fun _ => by rw [hv2])
    · refine Ev.neg h2 (Ev.done fun _ => ?_)
      rw [decide_eq_false h2, Bool.false_and, Bool.and_false]
  · refine Ev.neg h1 (Ev.done fun _ => ?_)
    rw [decide_eq_false h1, Bool.false_and]
theorem rlessL_ev (l m : List B) (hl : l.length ≤ 1000) (hm : m.length ≤ 1000) : ∀ (d i : Nat), i + d = l.length → i ≤ m.length → Ev (fun k => tapearchiveref19_Less.l0 k (l.map mk) (m.map mk) (i : Int)) (lessL (l.drop i) (m.drop i)) := by
  intro d
  have fin : ∀ i, Ev (fun k => tapearchiveref19_Less.j2 k (l.map mk) (m.map mk) (i : Int) false) (decide (l.length < m.length)) := fun i => by
    refine Ev.next (fun k => by rw [tapearchiveref19_Less.j2]) (Ev.neg (by simp) (Ev.done fun _ => ?_))
    rw [List.length_map, List.length_map]
    congr 1
    rw [Bool.eq_iff_iff, decide_eq_true_eq, decide_eq_true_eq]
    omega
  induction d with
  | zero =>
    intro i hi him
    refine Ev.next (fun k => by rw [tapearchiveref19_Less.l0]) (Ev.neg (by rw [List.length_map]; omega) ?_)
    have := fin i
    rw [List.drop_of_length_le (by omega : l.length ≤ i)]
    by_cases h : l.length < m.length
    · rw [decide_eq_true h] at this
      rw [List.drop_eq_getElem_cons (by omega : i < m.length)]
      exact this
    · rw [decide_eq_false h] at this
      rw [List.drop_of_length_le (by omega : m.length ≤ i)]
      exact this
  | succ d ih =>
    intro i hi him
    have h1 : i < l.length := by omega
    refine Ev.next (fun k => by rw [tapearchiveref19_Less.l0]) (Ev.pos (by rw [List.length_map]; omega) ?_)
    by_cases h2 : i < m.length
    · have e1 : decide ((i : Int) < (((m.map mk).length : Nat) : Int)) = true := decide_eq_true (by rw [List.length_map]; omega)
      rw [e1]
      refine Ev.next (fun k => by rw [tapearchiveref19_Less.j2]) (Ev.pos rfl (Ev.pos (by omega) (Ev.pos (by rw [List.length_map]; omega) (Ev.pos (by rw [List.length_map]; omega) ?_))))
      rw [rd_nat (by rw [List.length_map]; exact h1), rd_nat (by rw [List.length_map]; exact h2), List.getElem_map, List.getElem_map, mk_toList, mk_toList, List.drop_eq_getElem_cons h1, List.drop_eq_getElem_cons h2]
      unfold lessL
      by_cases e : l[i] = m[i]
      · refine Ev.pos e ?_
        rw [if_pos e, wrap_in (by omega) (by omega)]
        exact ih (i + 1) (by omega) (by omega)
      · refine Ev.neg e (Ev.done fun _ => ?_)
        rw [if_neg e]
    · have e1 : decide ((i : Int) < (((m.map mk).length : Nat) : Int)) = false := decide_eq_false (by rw [List.length_map]; omega)
      rw [e1]
      have := fin i
      rw [decide_eq_false (by omega)] at this
      rw [List.drop_eq_getElem_cons h1, List.drop_of_length_le (by omega : m.length ≤ i)]
      exact this
theorem rLess_ev (a b : ByteArray) : Ev (fun k => tapearchiveref19_Less.f k a b) (lessS (bs a) (bs b)) := by
  unfold tapearchiveref19_Less.f lessS
  refine Ev.both (rParse_ev a) (Ev.both (rParse_ev b) ?_)
  unfold outS
  have bad : ∀ P L, Ev (fun k => tapearchiveref19_Less.j0 k P L true) false := fun P L => Ev.next (fun k => by rw [tapearchiveref19_Less.j0]) (Ev.pos rfl (Ev.done fun _ => rfl))
  by_cases h1 : (parseS false (bs a)).2 = 0
  · refine Ev.pos h1 ?_
    by_cases h2 : (parseS false (bs b)).2 = 0
    · obtain ⟨r, _, _, e3, _, _, e6⟩ := parseS_ok h1
      obtain ⟨r', _, _, f3, _, _, f6⟩ := parseS_ok h2
      simp only
      rw [h2, decide_eq_true h1, decide_eq_true rfl, Bool.true_and, Bool.true_and, e3, f3]
      rw [show ((0 : Int) != 0) = false from rfl]
      refine Ev.next (fun k => by rw [tapearchiveref19_Less.j0]) (Ev.neg (by simp) ?_)
      exact rlessL_ev (pieces r) (pieces r') (by omega) (by omega) (pieces r).length 0 (by omega) (by omega)
    · have e : ((parseS false (bs b)).2 != 0) = true := by simpa using h2
      simp only
      rw [e, decide_eq_false h2, Bool.false_and, Bool.and_false]
      exact bad _ _
  · refine Ev.neg h1 ?_
    rw [decide_eq_false h1, Bool.false_and]
    exact bad _ _
end Go.Proofs.YtlcgepmacgbciaaDoor.Pth
end
section
namespace Go.Proofs.YtlcgepmacgbciaaDoor.Pth
open Go.RowKit Go.Proofs.YtlcgepmacgbciaaDoor.Q Go.Proofs.YtlcgepmacgbciaaDoorW.PrintWords Go.Proofs.YtlcgepmacgbciaaDoorW.PrintMore Go.Proofs.YtlcgepmacgbciaaDoorW.EvMore
theorem awake_ev : Ev (fun k => tapearchivelaw19_awake.f k) true := by
  refine Ev.of (fun k => tapearchivelaw19_awake.mono k) (k := 60) ?_
  kernel_rfl
theorem few_f (s : ByteArray) : tapearchivelaw19_few.f s = some (decide (s.size ≤ 500)) := by
  unfold tapearchivelaw19_few.f
  congr 1
  rw [Bool.eq_iff_iff, decide_eq_true_eq, decide_eq_true_eq]
  omega
end Go.Proofs.YtlcgepmacgbciaaDoor.Pth
end
section
namespace Go.Proofs.YtlcgepmacgbciaaDoor.Pth
open Go.RowKit Go.Proofs.YtlcgepmacgbciaaDoorW.PrintWords Go.Proofs.YtlcgepmacgbciaaDoorW.EvMore
theorem not_root {pat : Bool} : (parseS pat [47]).2 ≠ 0 := by cases pat <;> decide
theorem under_iff {a b : B} : underS a b = true ↔ (parseS false a).2 = 0 ∧ (b = [47] ∨ (parseS false b).2 = 0 ∧ (parseS false b).1 <+: (parseS false a).1) := by
  unfold underS
  simp only [Bool.and_eq_true, Bool.or_eq_true, decide_eq_true_eq, List.isPrefixOf_iff_prefix]
theorem less_iff {a b : B} : lessS a b = true ↔ (parseS false a).2 = 0 ∧ (parseS false b).2 = 0 ∧ lessL (parseS false a).1 (parseS false b).1 = true := by
  unfold lessS
  simp only [Bool.and_eq_true, decide_eq_true_eq]
theorem less_block {a b c : B} (hu : underS c a = true) (h1 : lessS a b = true) (h2 : lessS b c = true) : underS b a = true := by
  rw [under_iff] at hu ⊢
  rw [less_iff] at h1 h2
  refine ⟨h1.2.1, .inr ⟨h1.1, ?_⟩⟩
  rcases hu.2 with rfl | hu2
  · exact absurd h1.1 not_root
  · exact lessL_block hu2.2 h1.2.2 h2.2.2
end Go.Proofs.YtlcgepmacgbciaaDoor.Pth
end
section
namespace Go.Proofs.YtlcgepmacgbciaaDoor.Pth
open Go.RowKit Go.Proofs.YtlcgepmacgbciaaDoor.Q Go.Proofs.YtlcgepmacgbciaaDoorW.PrintWords Go.Proofs.YtlcgepmacgbciaaDoorW.PrintMore Go.Proofs.YtlcgepmacgbciaaDoorW.EvMore
theorem blocks : SPathBlocks.Pure := by
  intro a b c ha hb hc
  suffices h : Ev (fun k => tapearchivelaw19_PathBlocks.f k a b c) true from Ev.get h
  unfold tapearchivelaw19_PathBlocks.f
  have out : Ev (fun k => tapearchivelaw19_PathBlocks.j0 k a b c true) true := by
    refine Ev.next (fun k => by rw [tapearchivelaw19_PathBlocks.j0]) (Ev.pos rfl (Ev.both awake_ev ?_))
    exact Ev.done fun _ => rfl
  refine Ev.bindS (few_f a) ?_
  by_cases h1 : a.size ≤ 500
  · rw [decide_eq_true h1]
    refine Ev.pos rfl (Ev.bindS (few_f b) ?_)
    by_cases h2 : b.size ≤ 500
    · rw [decide_eq_true h2]
      refine Ev.pos rfl (Ev.bindS (few_f c) ?_)
      by_cases h3 : c.size ≤ 500
      · rw [decide_eq_true h3]
        refine Ev.pos rfl (Ev.both (rUnder_ev c a) ?_)
        cases h4 : underS (bs c) (bs a) with
        | false => exact Ev.neg (by simp) out
        | true =>
          refine Ev.pos rfl (Ev.both (rLess_ev a b) ?_)
          cases h5 : lessS (bs a) (bs b) with
          | false => exact Ev.neg (by simp) out
          | true =>
            refine Ev.pos rfl (Ev.both (rLess_ev b c) ?_)
            cases h6 : lessS (bs b) (bs c) with
            | false => exact out
            | true =>
              refine Ev.next (fun k => by rw [tapearchivelaw19_PathBlocks.j0]) (Ev.neg (by simp) (Ev.both (Less_ev a b) (Ev.pos h5 (Ev.both (Less_ev b c) (Ev.pos h6 (Ev.both (Under_ev c a) (Ev.pos h4 (Ev.both (Under_ev b a) (Ev.pos (less_block h4 h5 h6) (Ev.both awake_ev ?_))))))))))
              exact Ev.done fun _ => rfl
      · rw [decide_eq_false h3]
        exact Ev.neg (by simp) out
    · rw [decide_eq_false h2]
      exact Ev.neg (by simp) out
  · rw [decide_eq_false h1]
    exact Ev.neg (by simp) out
end Go.Proofs.YtlcgepmacgbciaaDoor.Pth
namespace Go.Proofs.YtlcgepmacgbciaaDoor.Pure
theorem PathBlocks : Go.Proofs.YtlcgepmacgbciaaDoor.SPathBlocks.Pure := Pth.blocks
end Go.Proofs.YtlcgepmacgbciaaDoor.Pure
end
