import Derived.Test.YtlcgepmacgbciaaDoorKPathOrders6
set_option linter.unusedVariables false
set_option linter.unusedSimpArgs false
section
namespace Go.Proofs.YtlcgepmacgbciaaDoor.Pth
open Go.RowKit Go.Proofs.YtlcgepmacgbciaaDoor.Q Go.Proofs.YtlcgepmacgbciaaDoorW.PrintWords Go.Proofs.YtlcgepmacgbciaaDoorW.PrintMore Go.Proofs.YtlcgepmacgbciaaDoorW.EvMore
theorem permitted_ev (c : UInt8) (pat : Bool) : Ev (fun k => path_permitted.f k (c.toNat : Int) pat) (pmt pat c) := by
  refine Ev.of (fun k => path_permitted.mono _ _ k) (k := 3) ?_
  have key : ∀ n : Fin 256, ∀ pat : Bool, path_permitted.f 3 (n.val : Int) pat = some (pmtN pat n.val) := by decide +kernel
  exact key ⟨c.toNat, c.toNat_lt⟩ pat
theorem plain_f (c : UInt8) : tapearchiveref19_plain.f (c.toNat : Int) = some (pmt false c) := by
  have key : ∀ n : Fin 256, tapearchiveref19_plain.f (n.val : Int) = some (pmtN false n.val) := by decide +kernel
  exact key ⟨c.toNat, c.toNat_lt⟩
theorem name_loop (s : ByteArray) (pat : Bool) (hs : s.size ≤ 4611686018427387904) : ∀ (d i : Nat), i + d = s.size → Ev (fun k => path_name.l0 k s pat (s.size : Int) (i : Int)) (((bs s).drop i).all (pmt pat)) := by
  intro d
  induction d with
  | zero =>
    intro i hi
    refine Ev.next (fun k => by rw [path_name.l0]) ?_
    refine Ev.neg (by omega) ?_
    rw [List.drop_of_length_le (by rw [bs_length]; omega)]
    exact Ev.done fun _ => rfl
  | succ d ih =>
    intro i hi
    have hl : i < (bs s).length := by rw [bs_length]; omega
    refine Ev.next (fun k => by rw [path_name.l0]) ?_
    refine Ev.pos (by omega) (Ev.pos (by omega) (Ev.pos (by omega) ?_))
    rw [bt_get s i _ (List.getElem?_eq_getElem hl), List.drop_eq_getElem_cons hl, List.all_cons]
    refine Ev.both (permitted_ev _ pat) ?_
    have ih := ih (i + 1) (by omega)
    cases h : pmt pat (bs s)[i] with
    | true =>
      refine Ev.pos rfl ?_
      rw [wrap_in (by omega) (by omega), show (i : Int) + 1 = ((i + 1 : Nat) : Int) from rfl, Bool.true_and]
      exact ih
    | false => exact Ev.neg (by simp) (Ev.done fun _ => rfl)
theorem name_ev (s : ByteArray) (pat : Bool) (hs : s.size ≤ 4611686018427387904) : Ev (fun k => path_name.f k s pat) (nm pat (bs s)) := by
  have hall := name_loop s pat hs s.size 0 (by omega)
  rw [List.drop_zero] at hall
  unfold path_name.f nm
  rw [toList_bs]
  have bad : Ev (fun k => path_name.j0 k s pat true) false := Ev.next (fun k => by rw [path_name.j0]) (Ev.pos rfl (Ev.done fun _ => rfl))
  by_cases h0 : bs s = []
  · refine Ev.pos h0 ?_
    rw [h0]
    exact bad
  refine Ev.neg h0 ?_
  by_cases h1 : bs s = [46]
  · refine Ev.pos h1 ?_
    rw [h1]
    exact bad
  refine Ev.neg h1 ?_
  rw [beq_false_of_ne h0, beq_false_of_ne h1]
  cases h2 : bs s == [46, 46] with
  | true => exact bad
  | false => exact Ev.next (fun k => by rw [path_name.j0]) (Ev.neg (by simp) (by simpa using hall))
theorem occ_one (c : UInt8) (l : B) (h : c ∉ l) : Lib.indexByte l c = -1 := by
  have hg := Lib.indexByte_ge l c
  by_cases h1 : Lib.indexByte l c = -1
  · exact h1
  · obtain ⟨o, ho⟩ : ∃ o : Nat, Lib.indexByte l c = o := ⟨(Lib.indexByte l c).toNat, by omega⟩
    exact absurd (List.mem_of_getElem? (Lib.indexByte_some ho).1) h
theorem cut_none {l : B} (h : 47 ∉ l) : Lib.cut l [47] = (l, [], false) := by
  unfold Lib.cut
  rw [Lib.index_one, occ_one 47 l h]
  rfl
theorem cut_some {a b : B} (h : 47 ∉ a) : Lib.cut (a ++ 47 :: b) [47] = (a, b, true) := by
  have e : Lib.indexByte (a ++ 47 :: b) 47 = (a.length : Int) := by
    cases ho : Lib.indexByte (a ++ 47 :: b) 47 with
    | ofNat o =>
      obtain ⟨h1, h2⟩ := Lib.indexByte_some (o := o) ho
      by_cases h3 : o < a.length
      · rw [List.getElem?_append_left h3] at h1
        exact absurd (List.mem_of_getElem? h1) h
      · by_cases h4 : a.length < o
        · exact absurd (by simp) (h2 a.length h4)
        · show (o : Int) = _
          omega
    | negSucc n =>
      have hg := Lib.indexByte_ge (a ++ 47 :: b) 47
      have e : Lib.indexByte (a ++ 47 :: b) 47 = -1 := by rw [ho] at hg ⊢; omega
      exact absurd (by simp) (Lib.indexByte_none e a.length)
  unfold Lib.cut
  rw [Lib.index_one, e, if_pos (by omega)]
  simp
def finS (pat : Bool) (l : B) (names : List ByteArray) (long : Bool) : List ByteArray × Int :=
  if (pieces l).all (nm pat) = true then (if long = true ∨ (pieces l).any (fun x => decide (24 < x.length)) = true ∨ 8 < names.length + (pieces l).length then ([], 6) else (names ++ (pieces l).map mk, 0)) else ([], 1)
theorem parse_loop (pat : Bool) : ∀ (n : Nat) (s : ByteArray) (names : List ByteArray) (long : Bool), s.size ≤ n → s.size + names.length ≤ 2000000000 → Ev (fun k => path_parse.l0 k pat s names long) (finS pat (bs s) names long) := by
  intro n
  induction n with
  | zero =>
    intro s names long h0 hs
    refine Ev.next (fun k => by rw [path_parse.l0]) ?_
    have hb : bs s = [] := List.length_eq_zero_iff.1 (by rw [bs_length]; omega)
    have hc : strings_Cut.f s ⟨#[47]⟩ = some (mk [], mk [], false) := by
      unfold strings_Cut.f
      rw [if_pos (by omega), show s.data.toList = bs s from rfl, hb]
      rfl
    refine Ev.bindS hc (Ev.both (name_ev (mk []) pat (by rw [mk_size]; simp)) (Ev.neg (by simp [bs_of_mk, nm]) (Ev.done fun _ => ?_)))
    unfold finS
    rw [if_neg]
    rw [hb]
    simp [pieces, nm]
  | succ n ih =>
    intro s names long h0 hs
    refine Ev.next (fun k => by rw [path_parse.l0]) ?_
    have fin1 : ∀ (a : B) (more : Bool) (b : B), bs s = (if more = true then a ++ 47 :: b else a) → strings_Cut.f s ⟨#[47]⟩ = some (mk a, mk b, more) → 47 ∉ a → Ev (fun k => (strings_Cut.f s ⟨#[47]⟩).bind fun bt104 => ((path_name.f k bt104.1 pat).bind fun t107 => (if t107 = true then (if (bt104.1.size : Int) > 24 then (if names.length < 8796093022208 then (if bt104.2.2 = true then (path_parse.l0 k pat bt104.2.1 (names ++ [bt104.1]) true) else (some (([] : List ByteArray), (6 : Int)))) else (none)) else (if names.length < 8796093022208 then ((some (names ++ [bt104.1] : List ByteArray)).bind fun y111 => (if bt104.2.2 = true then (path_parse.l0 k pat bt104.2.1 y111 long) else (if long = true then (some (([] : List ByteArray), (6 : Int))) else (if (y111.length : Int) > 8 then (some (([] : List ByteArray), (6 : Int))) else (some (y111, (0 : Int))))))) else (none))) else (some (([] : List ByteArray), (1 : Int)))))) (finS pat (bs s) names long) := by
      intro a more b hbs hcut ha
      have hlen : (bs s).length = s.size := bs_length s
      have hal : a.length ≤ s.size := by
        rw [hbs] at hlen
        split at hlen
        · simp at hlen; omega
        · omega
      refine Ev.bindS hcut (Ev.both (name_ev (mk a) pat (by rw [mk_size]; omega)) ?_)
      rw [bs_of_mk]
      have hP : pieces (bs s) = if more = true then a :: pieces b else [a] := by
        rw [hbs]
        split
        · exact pieces_cut ha
        · exact pieces_no ha
      have hne := List.length_pos_iff.2 (pieces_ne b)
      unfold finS
      rw [hP]
      by_cases hn : nm pat a = true
      · refine Ev.pos hn ?_
        have rest : ∀ L : Bool, more = true → Ev (fun k => path_parse.l0 k pat (mk b) (names ++ [mk a]) L) (if (pieces b).all (nm pat) = true then (if L = true ∨ (pieces b).any (fun x => decide (24 < x.length)) = true ∨ 8 < names.length + 1 + (pieces b).length then ([], 6) else (names ++ (a :: pieces b).map mk, 0)) else ([], 1)) := by
          intro L hm
          have hbl : a.length + (b.length + 1) = s.size := by
            rw [hbs, if_pos hm] at hlen
            simpa using hlen
          have := ih (mk b) (names ++ [mk a]) L (by rw [mk_size]; omega) (by rw [mk_size, List.length_append, List.length_singleton]; omega)
          unfold finS at this
          rw [bs_of_mk, List.length_append, List.length_singleton, List.append_assoc, List.singleton_append] at this
          exact this
        by_cases h24 : 24 < a.length
        · refine Ev.pos (by rw [mk_size]; omega) (Ev.pos (by omega) ?_)
          cases hm : more with
          | true =>
            refine Ev.pos rfl ?_
            have := rest true hm
            simp only [true_or, if_true] at this ⊢
            simp only [List.all_cons, hn, Bool.true_and, List.any_cons, h24, decide_true, Bool.true_or, true_or, or_true, if_true]
            exact this
          | false =>
            refine Ev.neg (by simp) (Ev.done fun _ => ?_)
            simp [hn, h24]
        · refine Ev.neg (by rw [mk_size]; omega) (Ev.pos (by omega) (Ev.bindS rfl ?_))
          cases hm : more with
          | true =>
            refine Ev.pos rfl ?_
            have := rest long hm
            simp only [if_true, List.all_cons, hn, Bool.true_and, List.any_cons, h24, decide_false, Bool.false_or, List.length_cons] at this ⊢
            rw [show names.length + ((pieces b).length + 1) = names.length + 1 + (pieces b).length from by omega]
            exact this
          | false =>
            refine Ev.neg (by simp) ?_
            simp only [Bool.false_eq_true, if_false, List.all_cons, List.all_nil, Bool.and_true, hn, if_true, List.any_cons, List.any_nil, Bool.or_false, h24, decide_false, false_or, List.length_singleton, List.map_cons, List.map_nil]
            by_cases hL : long = true
            · refine Ev.pos hL (Ev.done fun _ => ?_)
              rw [if_pos (Or.inl hL)]
            · refine Ev.neg hL ?_
              by_cases h8 : 8 < names.length + 1
              · refine Ev.pos (by rw [List.length_append, List.length_singleton]; omega) (Ev.done fun _ => ?_)
                rw [if_pos (Or.inr h8)]
              · refine Ev.neg (by rw [List.length_append, List.length_singleton]; omega) (Ev.done fun _ => ?_)
                rw [if_neg (by rw [not_or]; exact ⟨hL, h8⟩)]
      · refine Ev.neg hn (Ev.done fun _ => ?_)
        rw [if_neg]
        cases more <;> simp [hn]
    rcases cut_cases (bs s) with h | ⟨a, b, h, ha⟩
    · refine fin1 (bs s) false [] (by simp) ?_ h
      unfold strings_Cut.f
      rw [if_pos (by omega), show s.data.toList = bs s from rfl, show (⟨#[47]⟩ : ByteArray).data.toList = [47] from rfl, cut_none h]
      rfl
    · refine fin1 a true b (by simpa using h) ?_ ha
      unfold strings_Cut.f
      rw [if_pos (by omega), show s.data.toList = bs s from rfl, show (⟨#[47]⟩ : ByteArray).data.toList = [47] from rfl, h, cut_some ha]
      rfl
theorem parse_ev (s : ByteArray) (pat : Bool) : Ev (fun k => path_parse.f k s pat) (outS (parseS pat (bs s))) := by
  unfold path_parse.f parseS
  rw [bs_length]
  by_cases h : 200 < s.size
  · refine Ev.pos (by omega) (Ev.done fun _ => ?_)
    rw [if_pos h]
    rfl
  refine Ev.neg (by omega) ?_
  rw [if_neg h]
  have hp : strings_CutPrefix.f s ⟨#[47]⟩ = some (match bs s with | [] => (mk [], false) | c :: r => if c = 47 then (mk r, true) else (mk (c :: r), false)) := by
    unfold strings_CutPrefix.f Lib.trimPrefix Lib.hasPrefix
    rw [show s.data.toList = bs s from rfl, show (⟨#[47]⟩ : ByteArray).data.toList = [47] from rfl]
    cases bs s with
    | nil => rfl
    | cons c r =>
      by_cases hc : c = 47
      · subst hc; simp [mk]
      · have hc2 : ((47 : UInt8) == c) = false := beq_false_of_ne fun e => hc e.symm
        simp [hc, mk, List.isPrefixOf]
        exact fun e => hc e.symm
  refine Ev.bindS hp ?_
  cases hs : bs s with
  | nil => exact Ev.neg (by simp) (Ev.done fun _ => rfl)
  | cons c r =>
    have hl : r.length + 1 = s.size := by rw [← bs_length s, hs]; rfl
    by_cases hc : c = 47
    · simp only [if_pos hc]
      refine Ev.pos trivial ?_
      have := parse_loop pat r.length (mk r) [] false (by rw [mk_size]; omega) (by rw [mk_size]; simp; omega)
      unfold finS at this
      rw [bs_of_mk] at this
      simp only [Bool.false_eq_true, false_or, List.length_nil, Nat.zero_add, List.nil_append] at this
      refine Ev.congr (fun k => rfl) ?_
      have e : outS (if (pieces r).all (nm pat) = true then (if (pieces r).any (fun x => decide (24 < x.length)) = true ∨ 8 < (pieces r).length then ([], 6) else (pieces r, 0)) else ([], 1)) = (if (pieces r).all (nm pat) = true then (if (pieces r).any (fun x => decide (24 < x.length)) = true ∨ 8 < (pieces r).length then ([], 6) else ((pieces r).map mk, 0)) else ([], 1)) := by
        split
        · split <;> rfl
        · rfl
      rw [e]
      exact this
    · simp only [if_neg hc]
      exact Ev.neg (by simp) (Ev.done fun _ => rfl)
theorem Parse_ev (s : ByteArray) : Ev (fun k => path_Parse.f k s) (outS (parseS false (bs s))) := by
  unfold path_Parse.f
  exact Ev.both (parse_ev s false) (Ev.done fun _ => rfl)
theorem bad_mid {pat : Bool} {cur : B} {c : UInt8} {r : B} (h : 47 ∉ cur) (hc : c ≠ 47) (hp : pmt pat c = false) : ¬ (pieces (cur ++ c :: r)).all (nm pat) = true := by
  have h2 : 47 ∉ cur ++ [c] := by simp [h]; exact fun e => hc e.symm
  obtain ⟨p, ps, h3, h4⟩ := pieces_pre (a := cur ++ [c]) (b := r) h2
  rw [List.append_assoc, List.singleton_append] at h4
  rw [h4, List.all_cons]
  intro h5
  rw [Bool.and_eq_true] at h5
  have h6 := h5.1
  unfold nm at h6
  rw [Bool.and_eq_true] at h6
  have := List.all_eq_true.1 h6.2 c (by simp)
  rw [hp] at this
  cases this
def refS (pat : Bool) (out : List ByteArray) (l : B) : List ByteArray × Bool := if (pieces l).all (nm pat) = true then (out ++ (pieces l).map mk, true) else ([], false)
theorem nm_of_all {pat : Bool} {l : B} (h : ∀ c ∈ l, pmt pat c = true) : nm pat l = (!(l == []) && !(l == [46]) && !(l == [46, 46])) := by
  unfold nm
  rw [List.all_eq_true.2 h, Bool.and_true]
theorem names_loop (s : ByteArray) (pat : Bool) (hs : s.size ≤ 1000000000) : ∀ (d i from_ : Nat) (out : List ByteArray), i + d = s.size → from_ ≤ i → out.length ≤ i → 47 ∉ ((bs s).drop from_).take (i - from_) → (∀ c ∈ ((bs s).drop from_).take (i - from_), pmt pat c = true) →
    Ev (fun k => tapearchiveref19_names.l0 k s pat out (from_ : Int) (i : Int)) (refS pat out ((bs s).drop from_)) := by
  intro d
  induction d with
  | zero =>
    intro i from_ out hi hf ho h47 hall
    have e : ((bs s).drop from_).take (i - from_) = (bs s).drop from_ := List.take_of_length_le (by rw [List.length_drop, bs_length]; omega)
    rw [e] at h47 hall
    refine Ev.next (fun k => by rw [tapearchiveref19_names.l0]) ?_
    refine Ev.pos (by omega) (Ev.neg (by omega) (Ev.next (fun k => by rw [tapearchiveref19_names.j2]) ?_))
    have ee : (s.extract (from_ : Int).toNat (i : Int).toNat) = mk ((bs s).drop from_) := by
      apply bs_inj
      rw [bs_extract, Int.toNat_natCast, Int.toNat_natCast, e, bs_of_mk]
    refine Ev.neg (by simp) (Ev.pos (by omega) (Ev.pos (by omega) (Ev.pos (by omega) ?_)))
    rw [ee, mk_toList]
    unfold refS
    rw [pieces_no h47, List.all_cons, List.all_nil, Bool.and_true, nm_of_all hall]
    generalize (bs s).drop from_ = cur at *
    by_cases h1 : cur = []
    · exact Ev.pos h1 (Ev.done fun _ => by rw [if_neg (by simp [h1])])
    refine Ev.neg h1 ?_
    by_cases h2 : cur = [46]
    · exact Ev.pos h2 (Ev.done fun _ => by rw [if_neg (by simp [h2])])
    refine Ev.neg h2 ?_
    by_cases h3 : cur = [46, 46]
    · exact Ev.pos h3 (Ev.done fun _ => by rw [if_neg (by simp [h3])])
    refine Ev.neg h3 (Ev.pos (by omega) ?_)
    rw [if_pos (by simp [h1, h2, h3])]
    refine Ev.next (fun k => by rw [tapearchiveref19_names.l0]) ?_
    rw [wrap_in (by omega) (by omega)]
    exact Ev.neg (by omega) (Ev.done fun _ => rfl)
  | succ d ih =>
    intro i from_ out hi hf ho h47 hall
    have hl : i < (bs s).length := by rw [bs_length]; omega
    have hbt := bt_get s i _ (List.getElem?_eq_getElem hl)
    have hd : (bs s).drop i = (bs s)[i] :: (bs s).drop (i + 1) := List.drop_eq_getElem_cons hl
    have hsplit : (bs s).drop from_ = ((bs s).drop from_).take (i - from_) ++ (bs s)[i] :: (bs s).drop (i + 1) := by
      rw [← hd]
      conv => lhs; rw [← List.take_append_drop (i - from_) ((bs s).drop from_)]
      rw [List.drop_drop, show from_ + (i - from_) = i from by omega]
    have hsn : ((bs s).drop from_).take (i + 1 - from_) = ((bs s).drop from_).take (i - from_) ++ [(bs s)[i]] := by
      rw [show i + 1 - from_ = (i - from_) + 1 from by omega, List.take_succ_eq_append_getElem (by rw [List.length_drop]; omega)]
      congr 1
      rw [List.getElem_drop]
      congr 2
      omega
    have ih1 := ih (i + 1) from_ out (by omega) (by omega) (by omega)
    have ih2 := fun o => ih (i + 1) (i + 1) o (by omega) (by omega)
    rw [hsn] at ih1
    generalize (bs s)[i] = c at *
    refine Ev.next (fun k => by rw [tapearchiveref19_names.l0]) ?_
    refine Ev.pos (by omega) (Ev.pos (by omega) (Ev.pos (by omega) ?_))
    rw [hbt]
    refine Ev.next (fun k => by rw [tapearchiveref19_names.j2]) ?_
    have h47b : ((c.toNat : Int) != 47) = !(c == 47) := by
      rw [Bool.eq_iff_iff]
      simp only [bne_iff_ne, ne_eq, Bool.not_eq_true', beq_eq_false_iff_ne]
      constructor
      · intro h e; subst e; exact h rfl
      · intro h e; apply h; apply UInt8.toNat_inj.1; have : c.toNat = 47 := by omega
        rw [this]; rfl
    by_cases hc : c = 47
    · subst hc
      refine Ev.neg (by simp) (Ev.pos (by omega) (Ev.pos (by omega) (Ev.pos (by omega) ?_)))
      have ee : (s.extract (from_ : Int).toNat (i : Int).toNat) = mk (((bs s).drop from_).take (i - from_)) := by
        apply bs_inj
        rw [bs_extract, Int.toNat_natCast, Int.toNat_natCast, bs_of_mk]
      rw [ee, mk_toList]
      unfold refS
      have hP := pieces_cut (b := (bs s).drop (i + 1)) h47
      rw [← hsplit] at hP
      rw [hP, List.all_cons, nm_of_all hall]
      generalize ((bs s).drop from_).take (i - from_) = cur at *
      by_cases h1 : cur = []
      · exact Ev.pos h1 (Ev.done fun _ => by rw [if_neg (by simp [h1])])
      refine Ev.neg h1 ?_
      by_cases h2 : cur = [46]
      · exact Ev.pos h2 (Ev.done fun _ => by rw [if_neg (by simp [h2])])
      refine Ev.neg h2 ?_
      by_cases h3 : cur = [46, 46]
      · exact Ev.pos h3 (Ev.done fun _ => by rw [if_neg (by simp [h3])])
      refine Ev.neg h3 (Ev.pos (by omega) ?_)
      rw [wrap_in (by omega) (by omega), show (i : Int) + 1 = ((i + 1 : Nat) : Int) from rfl]
      have := ih2 (out ++ [mk cur]) (by simp; omega) (by simp) (by simp)
      unfold refS at this
      rw [beq_false_of_ne h1, beq_false_of_ne h2, beq_false_of_ne h3]
      simpa using this
    · rw [h47b, beq_false_of_ne hc]
      refine Ev.pos rfl (Ev.pos (by omega) (Ev.pos (by omega) ?_))
      have hg : pmt pat c = true → Ev (fun k => tapearchiveref19_names.j3 k s pat out (from_ : Int) (i : Int) false) (refS pat out ((bs s).drop from_)) := by
        intro hp
        refine Ev.next (fun k => by rw [tapearchiveref19_names.j3]) (Ev.neg (by simp) ?_)
        rw [wrap_in (by omega) (by omega), show (i : Int) + 1 = ((i + 1 : Nat) : Int) from rfl]
        refine ih1 (by simp only [List.mem_append, List.mem_singleton, not_or]; exact ⟨h47, fun e => hc e.symm⟩) ?_
        intro x hx
        rcases List.mem_append.1 hx with hx | hx
        · exact hall x hx
        · obtain rfl := List.mem_singleton.1 hx; exact hp
      have hbad : pmt pat c = false → Ev (fun k => tapearchiveref19_names.j3 k s pat out (from_ : Int) (i : Int) true) (refS pat out ((bs s).drop from_)) := by
        intro hp
        refine Ev.next (fun k => by rw [tapearchiveref19_names.j3]) (Ev.pos rfl (Ev.done fun _ => ?_))
        unfold refS
        rw [hsplit, if_neg (bad_mid h47 hc hp)]
      rw [hbt]
      refine Ev.bindS (plain_f c) ?_
      cases hp : pmt false c with
      | true =>
        refine Ev.pos rfl (hg ?_)
        cases pat
        · exact hp
        · exact pmt_mono hp
      | false =>
        refine Ev.neg (by simp) ?_
        have hpat : pmt true c = (pmt false c || (decide (c.toNat = 42) || decide (c.toNat = 63))) := by
          unfold pmt pmtN; simp
        rw [hp, Bool.false_or] at hpat
        cases pat with
        | true =>
          refine Ev.pos rfl ?_
          by_cases h42 : c.toNat = 42
          · refine Ev.pos (by omega) (hg (by rw [hpat]; simp [h42]))
          · refine Ev.neg (by omega) ?_
            by_cases h63 : c.toNat = 63
            · have e : ((c.toNat : Int) == 63) = true := by rw [beq_iff_eq]; omega
              rw [e]
              exact hg (by rw [hpat]; simp [h63])
            · have e : ((c.toNat : Int) == 63) = false := by rw [beq_eq_false_iff_ne]; omega
              rw [e]
              exact hbad (by rw [hpat]; simp [h42, h63])
        | false => exact Ev.neg (by simp) (hbad hp)
theorem names_ev (s : ByteArray) (pat : Bool) (hs : s.size ≤ 1000000000) : Ev (fun k => tapearchiveref19_names.f k s pat) (match bs s with | [] => ([], false) | c :: r => if c = 47 then refS pat [] r else ([], false)) := by
  unfold tapearchiveref19_names.f
  have bad : Ev (fun k => tapearchiveref19_names.j0 k s pat true) ([], false) := Ev.next (fun k => by rw [tapearchiveref19_names.j0]) (Ev.pos rfl (Ev.done fun _ => rfl))
  have hlen := bs_length s
  cases hb : bs s with
  | nil =>
    rw [hb] at hlen
    exact Ev.pos (by simp at hlen; omega) bad
  | cons c r =>
    have h0 : (bs s)[0]? = some c := by rw [hb]; rfl
    have hbt := bt_get s 0 c h0
    rw [hb] at hlen
    simp only [List.length_cons] at hlen
    refine Ev.neg (by omega) (Ev.pos (by omega) ?_)
    rw [show ((0 : Nat) : Int) = 0 from rfl] at hbt
    rw [hbt]
    by_cases hc : c = 47
    · simp only [if_pos hc]
      subst hc
      refine Ev.next (fun k => by rw [tapearchiveref19_names.j0]) (Ev.neg (by simp) ?_)
      have := names_loop s pat hs (s.size - 1) 1 1 [] (by omega) (Nat.le_refl _) (by simp) (by simp) (by simp)
      rw [hb, List.drop_one, List.tail_cons] at this
      exact this
    · simp only [if_neg hc]
      have e : ((c.toNat : Int) != 47) = true := by
        rw [bne_iff_ne]
        intro e
        apply hc
        apply UInt8.toNat_inj.1
        have : c.toNat = 47 := by omega
        rw [this]; rfl
      rw [e]
      exact bad
theorem rd_nat {l : List ByteArray} {i : Nat} (h : i < l.length) : rdOf ByteArray.empty l (i : Int) = l[i] := by
  unfold rdOf
  rw [Int.toNat_natCast, List.getD_eq_getElem?_getD, List.getElem?_eq_getElem h]
  rfl
theorem limits_ev (l : List ByteArray) (hl : l.length ≤ 4611686018427387904) : Ev (fun k => tapearchiveref19_limits.f k l) (if l.any (fun x => decide (24 < x.size)) = true ∨ 8 < l.length then 6 else 0) := by
  unfold tapearchiveref19_limits.f
  have go : ∀ (d i : Nat), i + d = l.length → Ev (fun k => tapearchiveref19_limits.l0 k l (i : Int)) (if (l.drop i).any (fun x => decide (24 < x.size)) = true ∨ 8 < l.length then 6 else 0) := by
    intro d
    induction d with
    | zero =>
      intro i hi
      refine Ev.next (fun k => by rw [tapearchiveref19_limits.l0]) (Ev.neg (by omega) ?_)
      rw [List.drop_of_length_le (by omega)]
      simp only [List.any_nil, Bool.false_eq_true, false_or]
      by_cases h : 8 < l.length
      · exact Ev.pos (by omega) (Ev.done fun _ => by rw [if_pos h])
      · exact Ev.neg (by omega) (Ev.done fun _ => by rw [if_neg h])
    | succ d ih =>
      intro i hi
      have hlt : i < l.length := by omega
      refine Ev.next (fun k => by rw [tapearchiveref19_limits.l0]) (Ev.pos (by omega) (Ev.pos (by omega) ?_))
      rw [rd_nat hlt, List.drop_eq_getElem_cons hlt, List.any_cons]
      by_cases h : 24 < l[i].size
      · exact Ev.pos (by omega) (Ev.done fun _ => by rw [if_pos]; simp [h])
      · refine Ev.neg (by omega) ?_
        rw [wrap_in (by omega) (by omega), show (i : Int) + 1 = ((i + 1 : Nat) : Int) from rfl]
        simp only [h, decide_false, Bool.false_or]
        exact ih (i + 1) (by omega)
  have := go l.length 0 (by omega)
  rw [List.drop_zero] at this
  exact this
theorem rparse_ev (s : ByteArray) (pat : Bool) : Ev (fun k => tapearchiveref19_parse.f k s pat) (outS (parseS pat (bs s))) := by
  unfold tapearchiveref19_parse.f parseS
  rw [bs_length]
  by_cases h : 200 < s.size
  · refine Ev.pos (by omega) (Ev.done fun _ => ?_)
    rw [if_pos h]
    rfl
  refine Ev.neg (by omega) ?_
  rw [if_neg h]
  refine Ev.both (names_ev s pat (by omega)) ?_
  have hlen := bs_length s
  cases hs : bs s with
  | nil => exact Ev.neg (by simp) (Ev.done fun _ => rfl)
  | cons c r =>
    rw [hs] at hlen
    simp only [List.length_cons] at hlen
    by_cases hc : c = 47
    · simp only [if_pos hc]
      unfold refS
      by_cases ha : (pieces r).all (nm pat) = true
      · rw [if_pos ha, if_pos ha]
        have hpl := pieces_len r
        refine Ev.pos rfl (Ev.both (limits_ev _ (by simp; omega)) ?_)
        have e : (((([] : List ByteArray) ++ (pieces r).map mk)).any (fun x => decide (24 < x.size)) = true ∨ 8 < (([] : List ByteArray) ++ (pieces r).map mk).length) ↔ ((pieces r).any (fun x => decide (24 < x.length)) = true ∨ 8 < (pieces r).length) := by
          rw [List.nil_append, List.any_map, List.length_map]
          exact Iff.rfl
        by_cases hb : (pieces r).any (fun x => decide (24 < x.length)) = true ∨ 8 < (pieces r).length
        · rw [if_pos hb, if_pos (e.2 hb)]
          exact Ev.neg (by simp) (Ev.done fun _ => rfl)
        · rw [if_neg hb, if_neg (fun x => hb (e.1 x))]
          exact Ev.pos rfl (Ev.done fun _ => rfl)
      · rw [if_neg ha, if_neg ha]
        exact Ev.neg (by simp) (Ev.done fun _ => rfl)
    · simp only [if_neg hc]
      exact Ev.neg (by simp) (Ev.done fun _ => rfl)
theorem rParse_ev (s : ByteArray) : Ev (fun k => tapearchiveref19_Parse.f k s) (outS (parseS false (bs s))) := by
  unfold tapearchiveref19_Parse.f
  exact Ev.both (rparse_ev s false) (Ev.done fun _ => rfl)
end Go.Proofs.YtlcgepmacgbciaaDoor.Pth
end
section
namespace Go.Proofs.YtlcgepmacgbciaaDoor.Pth
open Go.RowKit Go.Proofs.YtlcgepmacgbciaaDoor.Q Go.Proofs.YtlcgepmacgbciaaDoorW.PrintWords Go.Proofs.YtlcgepmacgbciaaDoorW.PrintMore Go.Proofs.YtlcgepmacgbciaaDoorW.EvMore
theorem rValid_ev (s : ByteArray) : Ev (fun k => tapearchiveref19_Valid.f k s) (decide ((parseS false (bs s)).2 = 0)) := by
  unfold tapearchiveref19_Valid.f
  exact Ev.both (rParse_ev s) (Ev.done fun _ => rfl)
theorem bl_flip (x y : B) : (!(Op.bytesLess x y || x == y)) = Op.bytesLess y x := less_flip x y
theorem bl_irrefl (x : B) : Op.bytesLess x x = false := by
  have := bl_flip x x
  rw [beq_self_eq_true, Bool.or_true] at this
  exact this.symm
theorem bl_asymm {x y : B} (h : Op.bytesLess x y = true) : Op.bytesLess y x = false := by
  have := bl_flip x y
  rw [h, Bool.true_or] at this
  exact this.symm
theorem bl_total {x y : B} (h : x ≠ y) (h2 : Op.bytesLess x y = false) : Op.bytesLess y x = true := by
  have := bl_flip x y
  rw [h2, Bool.false_or, beq_false_of_ne h] at this
  exact this.symm
theorem bl_trans : ∀ {x y z : B}, Op.bytesLess x y = true → Op.bytesLess y z = true → Op.bytesLess x z = true
  | [], [], _, h1, _ => by simp [Op.bytesLess] at h1
  | _ :: _, [], _, h1, _ => by simp [Op.bytesLess] at h1
  | [], _ :: _, [], _, h2 => by simp [Op.bytesLess] at h2
  | _ :: _, _ :: _, [], _, h2 => by simp [Op.bytesLess] at h2
  | [], _ :: _, _ :: _, _, _ => by simp [Op.bytesLess]
  | a :: x, b :: y, c :: z, h1, h2 => by
    simp only [Op.bytesLess, Bool.or_eq_true, Bool.and_eq_true, decide_eq_true_eq, beq_iff_eq, UInt8.lt_iff_toNat_lt, ← UInt8.toNat_inj] at h1 h2 ⊢
    rcases h1 with h1 | ⟨h1, h1'⟩ <;> rcases h2 with h2 | ⟨h2, h2'⟩
    · left; omega
    · left; omega
    · left; omega
    · right; exact ⟨by omega, bl_trans h1' h2'⟩
theorem lessL_irrefl : ∀ l : List B, lessL l l = false
  | [] => rfl
  | a :: l => by unfold lessL; rw [if_pos rfl]; exact lessL_irrefl l
theorem lessL_trans : ∀ {l m n : List B}, lessL l m = true → lessL m n = true → lessL l n = true
  | [], [], _, h1, _ => by simp [lessL] at h1
  | _ :: _, [], _, h1, _ => by simp [lessL] at h1
  | [], _ :: _, [], _, h2 => by simp [lessL] at h2
  | _ :: _, _ :: _, [], _, h2 => by simp [lessL] at h2
  | [], _ :: _, _ :: _, _, _ => rfl
  | a :: l, b :: m, c :: n, h1, h2 => by
    unfold lessL at h1 h2 ⊢
    by_cases e1 : a = b
    · subst e1
      rw [if_pos rfl] at h1
      by_cases e2 : a = c
      · subst e2
        rw [if_pos rfl] at h2 ⊢
        exact lessL_trans h1 h2
      · rw [if_neg e2] at h2 ⊢
        exact h2
    · rw [if_neg e1] at h1
      by_cases e2 : b = c
      · subst e2
        rw [if_neg e1]
        exact h1
      · rw [if_neg e2] at h2
        by_cases e3 : a = c
        · subst e3
          rw [bl_asymm h1] at h2
          cases h2
        · rw [if_neg e3]
          exact bl_trans h1 h2
theorem lessL_total : ∀ {l m : List B}, l ≠ m → lessL l m = false → lessL m l = true
  | [], [], h, _ => absurd rfl h
  | [], _ :: _, _, h => by simp [lessL] at h
  | _ :: _, [], _, _ => rfl
  | a :: l, b :: m, h, h2 => by
    unfold lessL at h2 ⊢
    by_cases e : a = b
    · subst e
      rw [if_pos rfl] at h2 ⊢
      exact lessL_total (fun e => h (by rw [e])) h2
    · rw [if_neg e] at h2
      rw [if_neg fun x => e x.symm]
      exact bl_total e h2
theorem compare_f (a b : ByteArray) : cmp_Compare_string.f a b = some (if Op.bytesLess (bs a) (bs b) = true then -1 else if Op.bytesLess (bs b) (bs a) = true then 1 else 0) := by
  unfold cmp_Compare_string.f cmp_isNaN_string.f
  simp only [bne_self_eq_false, Option.bind_some, Bool.false_eq_true, if_false, toList_bs]
  split
  · rfl
  · split <;> rfl
theorem compL_ev (l m : List B) (hl : l.length ≤ 1000) (hm : m.length ≤ 1000) : ∃ v : Int, Ev (fun k => slices_CompareFunc_string_string_string_string_cmp_Compare_string.f k (l.map mk) (m.map mk)) v ∧ decide (v < 0) = lessL l m := by
  unfold slices_CompareFunc_string_string_string_string_cmp_Compare_string.f
  have go : ∀ (d i : Nat), i + d = l.length → i ≤ m.length → ∃ v : Int, Ev (fun k => slices_CompareFunc_string_string_string_string_cmp_Compare_string.l0 k (l.map mk) (m.map mk) (l.map mk) (((l.map mk).length : Nat) : Int) (i : Int)) v ∧ decide (v < 0) = lessL (l.drop i) (m.drop i) := by
    intro d
    induction d with
    | zero =>
      intro i hi him
      by_cases h : l.length < m.length
      · refine ⟨-1, Ev.next (fun k => by rw [slices_CompareFunc_string_string_string_string_cmp_Compare_string.l0]) (Ev.neg (by rw [List.length_map]; omega) (Ev.pos (by rw [List.length_map, List.length_map]; omega) (Ev.done fun _ => rfl))), ?_⟩
        rw [List.drop_of_length_le (by omega : l.length ≤ i), List.drop_eq_getElem_cons (by omega : i < m.length)]
        rfl
      · refine ⟨0, Ev.next (fun k => by rw [slices_CompareFunc_string_string_string_string_cmp_Compare_string.l0]) (Ev.neg (by rw [List.length_map]; omega) (Ev.neg (by rw [List.length_map, List.length_map]; omega) (Ev.done fun _ => rfl))), ?_⟩
        rw [List.drop_of_length_le (by omega : l.length ≤ i), List.drop_of_length_le (by omega : m.length ≤ i)]
        rfl
    | succ d ih =>
      intro i hi him
      have h1 : i < l.length := by omega
      by_cases h2 : i < m.length
      · obtain ⟨v, hv1, hv2⟩ := ih (i + 1) (by omega) (by omega)
        have hr1 : rdOf ByteArray.empty (l.map mk) (i : Int) = mk l[i] := by rw [rd_nat (by rw [List.length_map]; exact h1), List.getElem_map]
        have hr2 : rdOf ByteArray.empty (m.map mk) (i : Int) = mk m[i] := by rw [rd_nat (by rw [List.length_map]; exact h2), List.getElem_map]
        have hc := compare_f (mk l[i]) (mk m[i])
        rw [bs_of_mk, bs_of_mk] at hc
        rw [List.drop_eq_getElem_cons h1, List.drop_eq_getElem_cons h2]
        unfold lessL
        by_cases e : l[i] = m[i]
        · rw [e, bl_irrefl] at hc
          refine ⟨v, Ev.next (fun k => by rw [slices_CompareFunc_string_string_string_string_cmp_Compare_string.l0]) (Ev.pos (by rw [List.length_map]; omega) (Ev.pos (by omega) (Ev.pos (by rw [List.length_map]; omega) (Ev.neg (by rw [List.length_map]; omega) (Ev.pos (by rw [List.length_map]; omega) ?_))))), ?_⟩
          · rw [hr1, hr2, e]
            refine Ev.bindS hc (Ev.pos rfl ?_)
            rw [wrap_in (by omega) (by omega)]
            exact hv1
          · rw [if_pos e]; exact hv2
        · rw [if_neg e]
          refine ⟨if Op.bytesLess l[i] m[i] = true then -1 else 1, Ev.next (fun k => by rw [slices_CompareFunc_string_string_string_string_cmp_Compare_string.l0]) (Ev.pos (by rw [List.length_map]; omega) (Ev.pos (by omega) (Ev.pos (by rw [List.length_map]; omega) (Ev.neg (by rw [List.length_map]; omega) (Ev.pos (by rw [List.length_map]; omega) ?_))))), ?_⟩
          · rw [hr1, hr2]
            refine Ev.bindS hc ?_
            cases hb : Op.bytesLess l[i] m[i] with
            | true => exact Ev.neg (by simp) (Ev.done fun _ => by simp)
            | false =>
              rw [bl_total e hb]
              exact Ev.neg (by simp) (Ev.done fun _ => by simp)
          · cases hb : Op.bytesLess l[i] m[i] <;> rfl
      · refine ⟨1, Ev.next (fun k => by rw [slices_CompareFunc_string_string_string_string_cmp_Compare_string.l0]) (Ev.pos (by rw [List.length_map]; omega) (Ev.pos (by omega) (Ev.pos (by rw [List.length_map]; omega) (Ev.pos (by rw [List.length_map]; omega) (Ev.done fun _ => rfl))))), ?_⟩
        rw [List.drop_eq_getElem_cons h1, List.drop_of_length_le (by omega : m.length ≤ i)]
        rfl
  exact go l.length 0 (by omega) (by omega)
theorem Less_ev (a b : ByteArray) : Ev (fun k => path_Less.f k a b) (lessS (bs a) (bs b)) := by
  unfold path_Less.f lessS
  refine Ev.both (Parse_ev a) (Ev.both (Parse_ev b) ?_)
  unfold outS
  by_cases h1 : (parseS false (bs a)).2 = 0
  · refine Ev.pos h1 ?_
    by_cases h2 : (parseS false (bs b)).2 = 0
    · refine Ev.pos h2 ?_
      obtain ⟨r, _, _, e3, _, _, e6⟩ := parseS_ok h1
      obtain ⟨r', _, _, f3, _, _, f6⟩ := parseS_ok h2
      rw [decide_eq_true h1, decide_eq_true h2, Bool.true_and, Bool.true_and, e3, f3]
      obtain ⟨v, hv1, hv2⟩ := compL_ev (pieces r) (pieces r') (by omega) (by omega)
      exact Ev.both hv1 (Ev.done fun _ => by rw [hv2])
    · refine Ev.neg h2 (Ev.done fun _ => ?_)
      rw [decide_eq_false h2, Bool.false_and, Bool.and_false]
  · refine Ev.neg h1 (Ev.done fun _ => ?_)
    rw [decide_eq_false h1, Bool.false_and]
theorem rlessL_ev (l m : List B) (hl : l.length ≤ 1000) (hm : m.length ≤ 1000) : ∀ (d i : Nat), i + d = l.length → i ≤ m.length → Ev (fun k => tapearchiveref19_Less.l0 k (l.map mk) (m.map mk) (i : Int)) (lessL (l.drop i) (m.drop i)) := by
  intro d
  have fin : ∀ i, Ev (fun k => tapearchiveref19_Less.j2 k (l.map mk) (m.map mk) (i : Int) false) (decide (l.length < m.length)) := fun i => by
    refine Ev.next (fun k => by rw [tapearchiveref19_Less.j2]) (Ev.neg (by simp) (Ev.done fun _ => ?_))
    rw [List.length_map, List.length_map]
    congr 1
    rw [Bool.eq_iff_iff, decide_eq_true_eq, decide_eq_true_eq]
    omega
  induction d with
  | zero =>
    intro i hi him
    refine Ev.next (fun k => by rw [tapearchiveref19_Less.l0]) (Ev.neg (by rw [List.length_map]; omega) ?_)
    have := fin i
    rw [List.drop_of_length_le (by omega : l.length ≤ i)]
    by_cases h : l.length < m.length
    · rw [decide_eq_true h] at this
      rw [List.drop_eq_getElem_cons (by omega : i < m.length)]
      exact this
    · rw [decide_eq_false h] at this
      rw [List.drop_of_length_le (by omega : m.length ≤ i)]
      exact this
  | succ d ih =>
    intro i hi him
    have h1 : i < l.length := by omega
    refine Ev.next (fun k => by rw [tapearchiveref19_Less.l0]) (Ev.pos (by rw [List.length_map]; omega) ?_)
    by_cases h2 : i < m.length
    · have e1 : decide ((i : Int) < (((m.map mk).length : Nat) : Int)) = true := decide_eq_true (by rw [List.length_map]; omega)
      rw [e1]
      refine Ev.next (fun k => by rw [tapearchiveref19_Less.j2]) (Ev.pos rfl (Ev.pos (by omega) (Ev.pos (by rw [List.length_map]; omega) (Ev.pos (by rw [List.length_map]; omega) ?_))))
      rw [rd_nat (by rw [List.length_map]; exact h1), rd_nat (by rw [List.length_map]; exact h2), List.getElem_map, List.getElem_map, mk_toList, mk_toList, List.drop_eq_getElem_cons h1, List.drop_eq_getElem_cons h2]
      unfold lessL
      by_cases e : l[i] = m[i]
      · refine Ev.pos e ?_
        rw [if_pos e, wrap_in (by omega) (by omega)]
        exact ih (i + 1) (by omega) (by omega)
      · refine Ev.neg e (Ev.done fun _ => ?_)
        rw [if_neg e]
    · have e1 : decide ((i : Int) < (((m.map mk).length : Nat) : Int)) = false := decide_eq_false (by rw [List.length_map]; omega)
      rw [e1]
      have := fin i
      rw [decide_eq_false (by omega)] at this
      rw [List.drop_eq_getElem_cons h1, List.drop_of_length_le (by omega : m.length ≤ i)]
      exact this
theorem rLess_ev (a b : ByteArray) : Ev (fun k => tapearchiveref19_Less.f k a b) (lessS (bs a) (bs b)) := by
  unfold tapearchiveref19_Less.f lessS
  refine Ev.both (rParse_ev a) (Ev.both (rParse_ev b) ?_)
  unfold outS
  have bad : ∀ P L, Ev (fun k => tapearchiveref19_Less.j0 k P L true) false := fun P L => Ev.next (fun k => by rw [tapearchiveref19_Less.j0]) (Ev.pos rfl (Ev.done fun _ => rfl))
  by_cases h1 : (parseS false (bs a)).2 = 0
  · refine Ev.pos h1 ?_
    by_cases h2 : (parseS false (bs b)).2 = 0
    · obtain ⟨r, _, _, e3, _, _, e6⟩ := parseS_ok h1
      obtain ⟨r', _, _, f3, _, _, f6⟩ := parseS_ok h2
      simp only
      rw [h2, decide_eq_true h1, decide_eq_true rfl, Bool.true_and, Bool.true_and, e3, f3]
      rw [show ((0 : Int) != 0) = false from rfl]
      refine Ev.next (fun k => by rw [tapearchiveref19_Less.j0]) (Ev.neg (by simp) ?_)
      exact rlessL_ev (pieces r) (pieces r') (by omega) (by omega) (pieces r).length 0 (by omega) (by omega)
    · have e : ((parseS false (bs b)).2 != 0) = true := by simpa using h2
      simp only
      rw [e, decide_eq_false h2, Bool.false_and, Bool.and_false]
      exact bad _ _
  · refine Ev.neg h1 ?_
    rw [decide_eq_false h1, Bool.false_and]
    exact bad _ _
end Go.Proofs.YtlcgepmacgbciaaDoor.Pth
end
section
namespace Go.Proofs.YtlcgepmacgbciaaDoor.Pth
open Go.RowKit Go.Proofs.YtlcgepmacgbciaaDoor.Q Go.Proofs.YtlcgepmacgbciaaDoorW.PrintWords Go.Proofs.YtlcgepmacgbciaaDoorW.PrintMore Go.Proofs.YtlcgepmacgbciaaDoorW.EvMore
theorem awake_ev : Ev (fun k => tapearchivelaw19_awake.f k) true := by
  refine Ev.of (fun k => tapearchivelaw19_awake.mono k) (k := 60) ?_
  kernel_rfl
theorem few_f (s : ByteArray) : tapearchivelaw19_few.f s = some (decide (s.size ≤ 500)) := by
  unfold tapearchivelaw19_few.f
  congr 1
  rw [Bool.eq_iff_iff, decide_eq_true_eq, decide_eq_true_eq]
  omega
end Go.Proofs.YtlcgepmacgbciaaDoor.Pth
end
section
namespace Go.Proofs.YtlcgepmacgbciaaDoor.Pth
open Go.RowKit Go.Proofs.YtlcgepmacgbciaaDoorW.PrintWords Go.Proofs.YtlcgepmacgbciaaDoorW.EvMore
theorem less_iff {a b : B} : lessS a b = true ↔ (parseS false a).2 = 0 ∧ (parseS false b).2 = 0 ∧ lessL (parseS false a).1 (parseS false b).1 = true := by
  unfold lessS
  simp only [Bool.and_eq_true, decide_eq_true_eq]
theorem less_trans {a b c : B} (h1 : lessS a b = true) (h2 : lessS b c = true) : lessS a c = true := by
  rw [less_iff] at h1 h2 ⊢
  exact ⟨h1.1, h2.2.1, lessL_trans h1.2.2 h2.2.2⟩
theorem less_asymm {a b : B} (h1 : lessS a b = true) : lessS b a = false := by
  rw [Bool.eq_false_iff]
  intro h2
  have := less_trans h1 h2
  rw [less_iff, lessL_irrefl] at this
  exact absurd this.2.2 (by simp)
theorem less_total {a b : B} (ha : (parseS false a).2 = 0) (hb : (parseS false b).2 = 0) (h : lessS a b = false) (hne : a ≠ b) : lessS b a = true := by
  rw [less_iff]
  refine ⟨hb, ha, lessL_total (fun e => hne (parseS_inj ha hb e)) ?_⟩
  unfold lessS at h
  rw [decide_eq_true ha, decide_eq_true hb] at h
  exact h
end Go.Proofs.YtlcgepmacgbciaaDoor.Pth
end
section
namespace Go.Proofs.YtlcgepmacgbciaaDoor.Pth
open Go.RowKit Go.Proofs.YtlcgepmacgbciaaDoor.Q Go.Proofs.YtlcgepmacgbciaaDoorW.PrintWords Go.Proofs.YtlcgepmacgbciaaDoorW.PrintMore Go.Proofs.YtlcgepmacgbciaaDoorW.EvMore
theorem orders : SPathOrders.Pure := by
  intro a b c ha hb hc
  suffices h : Ev (fun k => tapearchivelaw19_PathOrders.f k a b c) true from Ev.get h
  unfold tapearchivelaw19_PathOrders.f
  have out : Ev (fun k => tapearchivelaw19_PathOrders.j0 k a b c true) true := by
    refine Ev.next (fun k => by rw [tapearchivelaw19_PathOrders.j0]) (Ev.pos rfl (Ev.both awake_ev ?_))
    exact Ev.done fun _ => rfl
  refine Ev.bindS (few_f a) ?_
  by_cases h1 : a.size ≤ 500
  · rw [decide_eq_true h1]
    refine Ev.pos rfl (Ev.bindS (few_f b) ?_)
    by_cases h2 : b.size ≤ 500
    · rw [decide_eq_true h2]
      refine Ev.pos rfl (Ev.bindS (few_f c) ?_)
      by_cases h3 : c.size ≤ 500
      · rw [decide_eq_true h3]
        have fin : Ev (fun k => tapearchivelaw19_PathOrders.j1 k a b (lessS (bs a) (bs b)) false) true := by
          refine Ev.next (fun k => by rw [tapearchivelaw19_PathOrders.j1]) (Ev.neg (by simp) (Ev.both (rValid_ev a) ?_))
          by_cases h4 : (parseS false (bs a)).2 = 0
          · rw [decide_eq_true h4]
            refine Ev.pos rfl (Ev.both (rValid_ev b) ?_)
            by_cases h5 : (parseS false (bs b)).2 = 0
            · rw [decide_eq_true h5]
              refine Ev.pos rfl ?_
              cases h6 : lessS (bs a) (bs b) with
              | true => exact Ev.pos rfl (Ev.both awake_ev (Ev.done fun _ => rfl))
              | false =>
                refine Ev.neg (by simp) (Ev.both (Less_ev b a) ?_)
                by_cases h7 : bs a = bs b
                · rw [toList_bs, toList_bs]
                  cases h8 : lessS (bs b) (bs a) with
                  | true => exact Ev.pos rfl (Ev.both awake_ev (Ev.done fun _ => rfl))
                  | false => exact Ev.neg (by simp) (Ev.pos h7 (Ev.both awake_ev (Ev.done fun _ => rfl)))
                · rw [less_total h4 h5 h6 h7]
                  exact Ev.pos rfl (Ev.both awake_ev (Ev.done fun _ => rfl))
            · rw [decide_eq_false h5]
              exact Ev.neg (by simp) (Ev.both awake_ev (Ev.done fun _ => rfl))
          · rw [decide_eq_false h4]
            exact Ev.neg (by simp) (Ev.both awake_ev (Ev.done fun _ => rfl))
        refine Ev.next (fun k => by rw [tapearchivelaw19_PathOrders.j0]) (Ev.neg (by simp) (Ev.both (Less_ev a b) (Ev.both (Less_ev b c) (Ev.both (Less_ev a c) (Ev.both (rLess_ev a b) (Ev.neg ?_ ?_))))))
        · rw [bne_self_eq_false]
          exact Bool.false_ne_true
        cases h4 : lessS (bs a) (bs b) with
        | false =>
          rw [h4] at fin
          exact Ev.neg (by simp) fin
        | true =>
          rw [h4] at fin
          refine Ev.pos rfl (Ev.both (Less_ev b a) ?_)
          rw [less_asymm h4]
          refine Ev.neg (by simp) ?_
          cases h5 : lessS (bs b) (bs c) with
          | false => exact Ev.neg (by simp) fin
          | true =>
            rw [less_trans h4 h5]
            exact Ev.pos rfl fin
      · rw [decide_eq_false h3]
        exact out
    · rw [decide_eq_false h2]
      exact Ev.neg (by simp) out
  · rw [decide_eq_false h1]
    exact Ev.neg (by simp) out
end Go.Proofs.YtlcgepmacgbciaaDoor.Pth
namespace Go.Proofs.YtlcgepmacgbciaaDoor.Pure
theorem PathOrders : Go.Proofs.YtlcgepmacgbciaaDoor.SPathOrders.Pure := Pth.orders
end Go.Proofs.YtlcgepmacgbciaaDoor.Pure
end
