import Derived.Test.YtifhmdlgjojodaaDoorKLexerSeparators9
set_option linter.unusedVariables false
set_option linter.unusedSimpArgs false
section
namespace Go.Proofs.YtifhmdlgjojodaaDoor.Lex
open Go.RowKit Go.Proofs.YtifhmdlgjojodaaDoor.Q Go.Proofs.YtifhmdlgjojodaaDoorW.PrintWords Go.Proofs.YtifhmdlgjojodaaDoorW.PrintMore Go.Proofs.YtifhmdlgjojodaaDoorW.EvMore
theorem dig_f (c : UInt8) : lexer_digit.f (c.toNat : Int) = some (dig c) := by
  unfold lexer_digit.f dig
  by_cases h : 48 ≤ c.toNat
  · rw [if_pos (by omega)]
    simp only [h, decide_true, Bool.true_and, Option.some.injEq, decide_eq_decide]
    omega
  · rw [if_neg (by omega)]
    simp [h]
theorem alp_f (c : UInt8) : lexer_letter.f (c.toNat : Int) = some (alp c) := by
  unfold lexer_letter.f alp
  by_cases h : 97 ≤ c.toNat
  · rw [if_pos (by omega)]
    by_cases h2 : c.toNat ≤ 122
    · rw [if_pos (by omega)]; simp [h, h2]
    · rw [if_neg (by omega), if_pos (by omega)]
      have : ¬ c.toNat ≤ 90 := by omega
      simp [h2, this]
      omega
  · rw [if_neg (by omega)]
    by_cases h2 : 65 ≤ c.toNat
    · rw [if_pos (by omega)]
      simp only [h, h2, decide_true, decide_false, Bool.false_and, Bool.true_and, Bool.false_or, Option.some.injEq, decide_eq_decide]
      omega
    · rw [if_neg (by omega)]
      simp [h, h2]
theorem plain_f (c : UInt8) : lexer_plain.f (c.toNat : Int) = some (pln c) := by
  unfold lexer_plain.f pln
  have e34 : (((c.toNat : Int) != 34) : Bool) = (c != 34) := by
    rw [Bool.eq_iff_iff]
    simp only [bne_iff_ne, ne_eq]
    constructor
    · intro h e; subst e; exact h rfl
    · intro h e; apply h; apply UInt8.toNat_inj.1; have : c.toNat = 34 := by omega
      rw [this]; rfl
  by_cases h : 32 ≤ c.toNat
  · rw [if_pos (by omega)]
    by_cases h2 : c.toNat ≤ 126
    · rw [if_pos (by omega), e34]; simp [h, h2]
    · rw [if_neg (by omega)]; simp [h2]
  · rw [if_neg (by omega)]
    simp [h]
theorem idx_has (c : UInt8) : ∀ l : List UInt8, decide (Lib.indexByte l c ≥ 0) = l.contains c
  | [] => by simp [Lib.indexByte]
  | b :: l => by
    have ih := idx_has c l
    have hg := Lib.indexByte_ge l c
    rw [Lib.indexByte, List.contains_cons]
    by_cases e : b = c
    · subst e; simp
    · rw [if_neg (by simpa using e)]
      have e2 : (c == b) = false := by simpa using fun h => e h.symm
      rw [e2, Bool.false_or, ← ih]
      by_cases h1 : Lib.indexByte l c = -1
      · simp [h1]
      · rw [if_neg (by simpa using h1)]
        simp only [decide_eq_decide]
        omega
theorem byte_back (c : UInt8) : (c.toNat : Int).toNat.toUInt8 = c := by simp
theorem name_f (c : UInt8) : lexer_nameByte.f (c.toNat : Int) = some (nam c) := by
  unfold lexer_nameByte.f nam
  rw [alp_f, Option.bind_some]
  cases ha : alp c with
  | true => simp
  | false =>
    rw [if_neg (by simp), dig_f, Option.bind_some]
    cases hd : dig c with
    | true => simp
    | false =>
      rw [if_neg (by simp)]
      unfold strings_IndexByte.f
      rw [Option.bind_some, byte_back, idx_has]
      simp [Bool.or_assoc, Bool.beq_eq_decide_eq]
theorem run_gen (g : Nat → ByteArray → Int → Int → Option ByteArray) (pf : Int → Option Bool) (p : UInt8 → Bool) (hp : ∀ c : UInt8, pf (c.toNat : Int) = some (p c))
    (hg : ∀ k x n i, g (k + 1) x n i = if i < n then (if 0 ≤ i then (if i < (x.size : Int) then ((pf (bt x i)).bind fun t => (if t = true then (g k x n (wrap64 (i + 1))) else (if i ≤ (x.size : Int) then (some (x.extract 0 (i : Int).toNat)) else (none)))) else (none)) else (none)) else (some x))
    (s : ByteArray) (hs : s.size ≤ 4611686018427387904) (d : Nat) : ∀ (i : Nat), i ≤ s.size → s.size - i = d → ((bs s).take i).all p = true →
    Ev (fun k => g k s s.size i) (s.extract 0 ((bs s).takeWhile p).length) := by
  have hw : ∀ i, i ≤ s.size → ((bs s).take i).all p = true → ((bs s).takeWhile p).length = i + (((bs s).drop i).takeWhile p).length := by
    intro i hi ha
    conv => lhs; rw [← List.take_append_drop i (bs s)]
    rw [List.takeWhile_append_of_pos (fun a h => List.all_eq_true.1 ha a h), List.length_append, List.length_take, bs_length]
    omega
  induction d with
  | zero =>
    intro i hi hd ha
    have h1 := hw i hi ha
    rw [List.drop_of_length_le (by rw [bs_length]; omega)] at h1
    have e : ((bs s).takeWhile p).length = s.size := by simp at h1; omega
    refine Ev.next (fun k => hg k s _ _) ?_
    refine Ev.neg (by omega) (Ev.done fun _ => ?_)
    rw [e]
    congr 1
    apply bs_inj
    rw [bs_extract]
    simp [← bs_length]
  | succ d ih =>
    intro i hi hd ha
    have hlt : i < s.size := by omega
    have hltL : i < (bs s).length := hlt
    have h1 := hw i hi ha
    have hc : (bs s)[i]? = some ((bs s)[i]'hltL) := List.getElem?_eq_getElem hltL
    refine Ev.next (fun k => hg k s _ _) ?_
    refine Ev.pos (by omega) (Ev.pos (by omega) (Ev.pos (by omega) ?_))
    rw [bt_get s i _ hc]
    refine Ev.bindS (hp _) ?_
    cases hv : p ((bs s)[i]'hltL) with
    | true =>
      refine Ev.pos rfl ?_
      have e : wrap64 ((i : Int) + 1) = ((i + 1 : Nat) : Int) := by rw [wrap_in (by omega) (by omega)]; rfl
      rw [e]
      refine ih (i + 1) (by omega) (by omega) ?_
      rw [List.take_succ_eq_append_getElem hltL, List.all_append, ha]
      simp [hv]
    | false =>
      refine Ev.neg (by simp) (Ev.pos (by omega) (Ev.done fun _ => ?_))
      have h2 : ((bs s).drop i).takeWhile p = [] := by
        rw [List.drop_eq_getElem_cons hltL, List.takeWhile_cons, hv]
        rfl
      rw [h2] at h1
      rw [h1]
      simp
theorem run_digit (s : ByteArray) (hs : s.size ≤ 4611686018427387904) : Ev (fun k => lexer_run_lexer_digit.f k s) (s.extract 0 ((bs s).takeWhile dig).length) :=
  Ev.same (run_gen lexer_run_lexer_digit.l0 lexer_digit.f dig dig_f (fun k x n i => by rw [lexer_run_lexer_digit.l0]) s hs _ 0 (Nat.zero_le _) rfl (by simp)) (fun k => rfl)
theorem run_name (s : ByteArray) (hs : s.size ≤ 4611686018427387904) : Ev (fun k => lexer_run_lexer_nameByte.f k s) (s.extract 0 ((bs s).takeWhile nam).length) :=
  Ev.same (run_gen lexer_run_lexer_nameByte.l0 lexer_nameByte.f nam name_f (fun k x n i => by rw [lexer_run_lexer_nameByte.l0]) s hs _ 0 (Nat.zero_le _) rfl (by simp)) (fun k => rfl)
theorem run_plain (s : ByteArray) (hs : s.size ≤ 4611686018427387904) : Ev (fun k => lexer_run_lexer_plain.f k s) (s.extract 0 ((bs s).takeWhile pln).length) :=
  Ev.same (run_gen lexer_run_lexer_plain.l0 lexer_plain.f pln plain_f (fun k x n i => by rw [lexer_run_lexer_plain.l0]) s hs _ 0 (Nat.zero_le _) rfl (by simp)) (fun k => rfl)
theorem take_takeWhile (p : UInt8 → Bool) (l : List UInt8) : l.take (l.takeWhile p).length = l.takeWhile p := by
  induction l with
  | nil => rfl
  | cons c r ih =>
    rw [List.takeWhile_cons]
    cases p c with
    | true => simp [ih]
    | false => rfl
theorem bs_run (s : ByteArray) (p : UInt8 → Bool) : bs (s.extract 0 ((bs s).takeWhile p).length) = (bs s).takeWhile p := by
  rw [bs_extract, List.drop_zero, Nat.sub_zero, take_takeWhile]
theorem takeWhile_le (p : UInt8 → Bool) (l : List UInt8) : (l.takeWhile p).length ≤ l.length := (List.takeWhile_sublist _).length_le
theorem bs_eq_iff (s : ByteArray) (l : List UInt8) : s.toList = l ↔ bs s = l := by rw [toList_bs]
theorem unit_f (s : ByteArray) : lexer_Unit.f s = some (((unit (bs s)).1 : Int), (unit (bs s)).2) := by
  unfold lexer_Unit.f unit
  simp only [bs_eq_iff]
  repeat' split
  all_goals rfl
end Go.Proofs.YtifhmdlgjojodaaDoor.Lex
end
section
namespace Go.Proofs.YtifhmdlgjojodaaDoor.Lex
open Go.RowKit Go.Proofs.YtifhmdlgjojodaaDoor.Q Go.Proofs.YtifhmdlgjojodaaDoorW.PrintWords Go.Proofs.YtifhmdlgjojodaaDoorW.PrintMore Go.Proofs.YtifhmdlgjojodaaDoorW.EvMore
def outP (t : Tk) : Int × ByteArray × Int × Int × Int × Int := (t.1, ⟨t.2.1.toArray⟩, t.2.2.1, 0, (t.2.2.2.1 : Int), t.2.2.2.2)
theorem val_snoc (l : List UInt8) (c : UInt8) : val (l ++ [c]) = 10 * val l + (c.toNat - 48) := by simp [val, List.foldl_append]
theorem val_from (l : List UInt8) : ∀ n : Nat, n ≤ l.foldl (fun n c => 10 * n + (c.toNat - 48)) n := by
  induction l with
  | nil => intro n; exact Nat.le_refl _
  | cons c r ih => intro n; exact Nat.le_trans (show n ≤ 10 * n + (c.toNat - 48) by omega) (ih _)
theorem val_take_le (l : List UInt8) (i : Nat) : val (l.take i) ≤ val l := by
  conv => rhs; rw [← List.take_append_drop i l]
  unfold val
  rw [List.foldl_append]
  exact val_from _ _
theorem tdiv_nat (a b : Nat) : Int.tdiv (a : Int) (b : Int) = ((a / b : Nat) : Int) := rfl
theorem takeWhile_all (p : UInt8 → Bool) (l : List UInt8) : (l.takeWhile p).all p = true := by
  induction l with
  | nil => rfl
  | cons c r ih =>
    rw [List.takeWhile_cons]
    cases h : p c with
    | true => simp [h]
    | false => rfl
theorem num_loop (x5 x6 : ByteArray) (f : Nat) (h1 : 1 ≤ f) (h2 : f ≤ 1048576) (hs : x5.size ≤ 4611686018427387904) (hs6 : x6.size ≤ 1) (hd : (bs x5).all dig = true) (d : Nat) :
    ∀ (i : Nat), i ≤ x5.size → x5.size - i = d → val ((bs x5).take i) ≤ 1125899906842624 →
    Ev (fun k => lexer_number.l0 k x5 x6 f (val ((bs x5).take i) : Nat) x5.size i)
      (outP (if 1125899906842624 / f < val (bs x5) then bad 7 else (2, [], ((val (bs x5) * f : Nat) : Int), (bs x5).length + (bs x6).length, 0))) := by
  have hdiv : 1125899906842624 / f ≤ 1125899906842624 := Nat.div_le_self _ _
  induction d with
  | zero =>
    intro i hi hdi hv
    have e : (bs x5).take i = bs x5 := List.take_of_length_le (by rw [bs_length]; omega)
    rw [e] at hv ⊢
    refine Ev.next (fun k => by rw [lexer_number.l0]) ?_
    refine Ev.neg (by omega) (Ev.neg (by omega) ?_)
    have et : wrap64 (Int.tdiv (1125899906842624 : Int) (f : Int)) = ((1125899906842624 / f : Nat) : Int) := by
      rw [show (1125899906842624 : Int) = ((1125899906842624 : Nat) : Int) from rfl, tdiv_nat]
      exact wrap_nat (by omega)
    rw [et]
    by_cases hc : 1125899906842624 / f < val (bs x5)
    · refine Ev.pos (by omega) (Ev.done fun _ => ?_)
      rw [if_pos hc]
      rfl
    · refine Ev.neg (by omega) (Ev.done fun _ => ?_)
      rw [if_neg hc]
      have hm : val (bs x5) * f ≤ 1125899906842624 := by
        have := Nat.mul_le_mul_right f (Nat.le_of_not_lt hc)
        exact Nat.le_trans this (Nat.div_mul_le_self _ _)
      have e1 : wrap64 ((val (bs x5) : Nat) * (f : Int)) = ((val (bs x5) * f : Nat) : Int) := by
        rw [show ((val (bs x5) : Nat) : Int) * (f : Int) = ((val (bs x5) * f : Nat) : Int) from by simp]
        exact wrap_nat (by omega)
      have e2 : wrap64 ((x5.size : Int) + (x6.size : Int)) = (((bs x5).length + (bs x6).length : Nat) : Int) := by
        rw [bs_length, bs_length, show (x5.size : Int) + (x6.size : Int) = ((x5.size + x6.size : Nat) : Int) from by simp]
        exact wrap_nat (by omega)
      rw [e1, e2]
      rfl
  | succ d ih =>
    intro i hi hdi hv
    have hlt : i < x5.size := by omega
    have hltL : i < (bs x5).length := hlt
    have hc : (bs x5)[i]? = some ((bs x5)[i]'hltL) := List.getElem?_eq_getElem hltL
    have hdc : dig ((bs x5)[i]'hltL) = true := List.all_eq_true.1 hd _ (List.getElem_mem hltL)
    have hsn : val ((bs x5).take (i + 1)) = 10 * val ((bs x5).take i) + (((bs x5)[i]'hltL).toNat - 48) := by
      rw [List.take_succ_eq_append_getElem hltL, val_snoc]
    generalize (bs x5)[i]'hltL = c at hc hdc hsn
    have hb : 48 ≤ c.toNat ∧ c.toNat ≤ 57 := by simpa [dig] using hdc
    refine Ev.next (fun k => by rw [lexer_number.l0]) ?_
    refine Ev.pos (by omega) (Ev.pos (by omega) (Ev.pos (by omega) ?_))
    rw [bt_get x5 i c hc]
    have hle1 := val_take_le (bs x5) (i + 1)
    have ih1 := ih (i + 1) (by omega) (by omega)
    clear ih
    generalize val ((bs x5).take (i + 1)) = v1 at hsn hle1 ih1 ⊢
    generalize val ((bs x5).take i) = v0 at hsn hv ⊢
    generalize val (bs x5) = vt at hle1 ih1 ⊢
    have e0 : wrap64 (10 * (v0 : Int)) = 10 * (v0 : Int) := wrap_in (by omega) (by omega)
    have e1 : wrap64 (10 * (v0 : Int) + ((c.toNat : Int) - 48) % 256) = (v1 : Int) := by
      rw [wrap_in (by omega) (by omega)]
      omega
    have e2 : wrap64 ((i : Int) + 1) = ((i + 1 : Nat) : Int) := by rw [wrap_in (by omega) (by omega)]; rfl
    rw [e0, e1, e2]
    by_cases hbig : 1125899906842624 < v1
    · have hb1 : (v1 : Int) > 1125899906842624 := by omega
      have hb2 : 1125899906842624 / f < vt := by omega
      refine Ev.pos hb1 (Ev.done fun _ => ?_)
      rw [if_pos hb2]
      rfl
    · have hb1 : ¬ (v1 : Int) > 1125899906842624 := by omega
      have hb2 : v1 ≤ 1125899906842624 := by omega
      exact Ev.neg hb1 (ih1 hb2)
theorem num_fin (x5 x6 : ByteArray) (f : Nat) (h1 : 1 ≤ f) (h2 : f ≤ 1048576) (hs : x5.size ≤ 4611686018427387904) (hs6 : x6.size ≤ 1) (hd : (bs x5).all dig = true) :
    Ev (fun k => lexer_number.j0 k x5 x6 f) (outP (numFin (bs x5) (bs x6) f)) := by
  have go : ∀ b : Bool, b = decide (1 < (bs x5).length ∧ (bs x5).head? = some 48) → Ev (fun k => lexer_number.j1 k x5 x6 f b) (outP (numFin (bs x5) (bs x6) f)) := by
    intro b hb
    refine Ev.next (fun k => by rw [lexer_number.j1]) ?_
    unfold numFin
    cases b with
    | true =>
      rw [if_pos (of_decide_eq_true hb.symm)]
      exact Ev.pos rfl (Ev.done fun _ => rfl)
    | false =>
      rw [if_neg (of_decide_eq_false hb.symm)]
      refine Ev.neg (by simp) ?_
      exact num_loop x5 x6 f h1 h2 hs hs6 hd _ 0 (Nat.zero_le _) rfl (by simp [val])
  refine Ev.next (fun k => by rw [lexer_number.j0]) ?_
  by_cases hl : 1 < x5.size
  · refine Ev.pos (by omega) (Ev.pos (by omega) ?_)
    refine go _ ?_
    have hltL : 0 < (bs x5).length := by rw [bs_length]; omega
    have hc : (bs x5)[0]? = some ((bs x5)[0]'hltL) := List.getElem?_eq_getElem hltL
    have hh : (bs x5).head? = some ((bs x5)[0]'hltL) := by rw [List.head?_eq_getElem?]; exact hc
    have := bt_get x5 0 _ hc
    rw [show ((0 : Nat) : Int) = 0 from rfl] at this
    rw [this, hh]
    have hl' : 1 < (bs x5).length := hl
    generalize (bs x5)[0]'hltL = c
    rw [Bool.eq_iff_iff]
    simp only [beq_iff_eq, decide_eq_true_eq, Option.some.injEq, hl', true_and]
    constructor
    · intro h; apply UInt8.toNat_inj.1; have : c.toNat = 48 := by omega
      rw [this]; rfl
    · rintro rfl; rfl
  · refine Ev.neg (by omega) (go _ ?_)
    symm
    rw [decide_eq_false_iff_not, bs_length]
    exact fun h => hl h.1
theorem number_ev (s : ByteArray) (hs : s.size ≤ 4611686018427387904) : Ev (fun k => lexer_number.f k s) (outP (numTk (bs s))) := by
  have hle := takeWhile_le dig (bs s)
  rw [bs_length] at hle
  have hd := bs_run s dig
  have hsz : (s.extract 0 ((bs s).takeWhile dig).length).size = ((bs s).takeWhile dig).length := by rw [size_extract]; omega
  unfold lexer_number.f
  refine Ev.both (run_digit s hs) ?_
  refine Ev.pos (by omega) (Ev.pos (by omega) ?_)
  have he : bs (s.extract ((s.extract 0 ((bs s).takeWhile dig).length).size : Int).toNat s.size) = (bs s).drop ((bs s).takeWhile dig).length := by
    rw [bs_extract, hsz, Int.toNat_natCast]
    exact List.take_of_length_le (by rw [List.length_drop, bs_length]; omega)
  have hez : (s.extract ((s.extract 0 ((bs s).takeWhile dig).length).size : Int).toNat s.size).size ≤ 4611686018427387904 := by rw [size_extract]; omega
  refine Ev.both (run_name _ hez) ?_
  have hr := bs_run (s.extract ((s.extract 0 ((bs s).takeWhile dig).length).size : Int).toNat s.size) nam
  rw [he] at hr ⊢
  generalize (s.extract ((s.extract 0 ((bs s).takeWhile dig).length).size : Int).toNat s.size).extract 0 (((bs s).drop ((bs s).takeWhile dig).length).takeWhile nam).length = x6 at hr ⊢
  have hall : (bs (s.extract 0 ((bs s).takeWhile dig).length)).all dig = true := by rw [hd]; exact takeWhile_all _ _
  have hsz5 : (s.extract 0 ((bs s).takeWhile dig).length).size ≤ 4611686018427387904 := by omega
  generalize (s.extract 0 ((bs s).takeWhile dig).length) = x5 at hd hall hsz5 ⊢
  unfold numTk
  simp only
  rw [← hr, ← hd]
  by_cases h0 : bs x6 = []
  · refine Ev.pos ((bs_eq_iff _ _).2 h0) ?_
    rw [if_pos h0]
    exact num_fin x5 x6 1 (by omega) (by omega) hsz5 (by rw [← bs_length, h0]; simp) hall
  · refine Ev.neg (fun h => h0 ((bs_eq_iff _ _).1 h)) ?_
    rw [if_neg h0]
    refine Ev.bindS (unit_f x6) ?_
    by_cases hu : (unit (bs x6)).2 = true
    · refine Ev.pos hu ?_
      rw [if_pos hu]
      obtain ⟨u1, u2, u3⟩ := unit_one hu
      exact num_fin x5 x6 _ u1 u2 hsz5 (by rw [← bs_length, u3]; omega) hall
    · refine Ev.neg hu (Ev.done fun _ => ?_)
      rw [if_neg hu]
      rfl
theorem quoted_ev (s : ByteArray) (r : List UInt8) (hb : bs s = 34 :: r) (hs : s.size ≤ 4611686018427387904) : Ev (fun k => lexer_quoted.f k s) (outP (txtTk r)) := by
  have hl : s.size = r.length + 1 := by rw [← bs_length, hb]; rfl
  have he : bs (s.extract 1 s.size) = r := by
    rw [bs_extract, hb, List.drop_one, List.tail_cons]
    exact List.take_of_length_le (by omega)
  unfold lexer_quoted.f
  refine Ev.pos (by omega) ?_
  refine Ev.both (run_plain _ (by rw [size_extract]; omega)) ?_
  have ht := bs_run (s.extract 1 s.size) pln
  rw [he] at ht ⊢
  have hle := takeWhile_le pln r
  generalize (s.extract 1 s.size).extract 0 (r.takeWhile pln).length = t at ht ⊢
  have hts : t.size = (r.takeWhile pln).length := by rw [← bs_length, ht]
  have e1 : wrap64 ((t.size : Int) + 1) = (((r.takeWhile pln).length + 1 : Nat) : Int) := by rw [wrap_in (by omega) (by omega)]; omega
  have e2 : wrap64 ((t.size : Int) + 2) = (((r.takeWhile pln).length + 2 : Nat) : Int) := by rw [wrap_in (by omega) (by omega)]; omega
  rw [e1, e2]
  unfold txtTk
  simp only
  by_cases hend : (r.takeWhile pln).length + 1 = s.size
  · refine Ev.pos (by omega) (Ev.done fun _ => ?_)
    rw [if_neg (by rw [List.getElem?_eq_none (by omega)]; simp)]
    rfl
  · refine Ev.neg (by omega) (Ev.pos (by omega) (Ev.pos (by omega) ?_))
    have hlt : (r.takeWhile pln).length < r.length := by omega
    have hg : (bs s)[(r.takeWhile pln).length + 1]? = some (r[(r.takeWhile pln).length]'hlt) := by rw [hb, List.getElem?_cons_succ]; exact List.getElem?_eq_getElem hlt
    rw [bt_get s _ _ hg, List.getElem?_eq_getElem hlt]
    generalize r[(r.takeWhile pln).length]'hlt = c
    by_cases hq : c = 34
    · subst hq
      refine Ev.pos rfl (Ev.done fun _ => ?_)
      rw [if_pos rfl]
      rw [← ht]
      rfl
    · refine Ev.neg (fun h => hq ?_) (Ev.done fun _ => ?_)
      · apply UInt8.toNat_inj.1
        have : c.toNat = 34 := by omega
        rw [this]; rfl
      · rw [if_neg (by simpa using hq)]
        rfl
end Go.Proofs.YtifhmdlgjojodaaDoor.Lex
end
section
namespace Go.Proofs.YtifhmdlgjojodaaDoor.Lex
open Go.RowKit Go.Proofs.YtifhmdlgjojodaaDoor.Q Go.Proofs.YtifhmdlgjojodaaDoorW.PrintWords Go.Proofs.YtifhmdlgjojodaaDoorW.PrintMore Go.Proofs.YtifhmdlgjojodaaDoorW.EvMore
theorem u8_eq {c d : UInt8} (h : (c.toNat : Int) = (d.toNat : Int)) : c = d := UInt8.toNat_inj.1 (by omega)
def symb : List UInt8 → List UInt8
  | [] => []
  | c :: r => if c = 62 ∧ r.head? = some 61 then [62, 61] else if sym c = true then [c] else []
theorem sym_has (c : UInt8) : decide (Lib.indexByte [40, 41, 123, 125, 60, 61, 33, 59, 44, 58] c ≥ 0) = sym c := by
  rw [idx_has]
  simp [sym, Bool.or_assoc, Bool.beq_eq_decide_eq]
theorem symbol_f (s : ByteArray) : ∃ t, lexer_symbol.f s = some t ∧ bs t = symb (bs s) := by
  unfold lexer_symbol.f strings_HasPrefix.f stringslite_HasPrefix.f
  have e2 : ((⟨#[62, 61]⟩ : ByteArray).size : Int) = 2 := rfl
  have hx : (s.extract 0 ((2 : Int)).toNat).toList = (bs s).take 2 := by rw [toList_bs, bs_extract]; rfl
  have hp : ∃ b, ((if (s.size : Int) ≥ ((⟨#[62, 61]⟩ : ByteArray).size : Int) then (if 0 ≤ ((⟨#[62, 61]⟩ : ByteArray).size : Int) then (if ((⟨#[62, 61]⟩ : ByteArray).size : Int) ≤ (s.size : Int) then (some ((s.extract 0 (((⟨#[62, 61]⟩ : ByteArray).size : Int) : Int).toNat).toList == (⟨#[62, 61]⟩ : ByteArray).toList)) else (none)) else (none)) else (some false)) : Option Bool) = some b ∧ (b = true ↔ (bs s).take 2 = [62, 61]) := by
    rw [e2, hx]
    by_cases h : (s.size : Int) ≥ 2
    · rw [if_pos h, if_pos (by omega), if_pos h]
      refine ⟨_, rfl, ?_⟩
      rw [beq_iff_eq, toList_bs]
      rfl
    · rw [if_neg h]
      refine ⟨_, rfl, ?_⟩
      simp only [Bool.false_eq_true, false_iff]
      intro e
      have := congrArg List.length e
      simp [bs_length] at this
      omega
  obtain ⟨b, hb, hbi⟩ := hp
  rw [hb]
  simp only [Option.bind_some]
  cases b with
  | true =>
    rw [if_pos rfl]
    refine ⟨_, rfl, ?_⟩
    have := hbi.1 rfl
    cases h : bs s with
    | nil => rw [h] at this; cases this
    | cons c r =>
      rw [h] at this
      cases r with
      | nil => simp at this
      | cons d r =>
        simp at this
        rw [symb, if_pos (by simp [this])]
        rfl
  | false =>
    rw [if_neg (by simp)]
    cases h : bs s with
    | nil =>
      rw [if_pos ((bs_eq_iff _ _).2 h)]
      exact ⟨_, rfl, rfl⟩
    | cons c r =>
      have hn : ¬ (c = 62 ∧ r.head? = some 61) := by
        rintro ⟨rfl, hr⟩
        cases r with
        | nil => simp at hr
        | cons d r => simp at hr; subst hr; exact absurd (hbi.2 (by rw [h]; rfl)) (by simp)
      have hsz : s.size = r.length + 1 := by rw [← bs_length, h]; rfl
      have hg := bt_get s 0 c (by rw [h]; rfl)
      rw [show ((0 : Nat) : Int) = 0 from rfl] at hg
      rw [if_neg (fun e => by rw [bs_eq_iff, h] at e; cases e), if_pos (by omega), hg]
      unfold strings_IndexByte.f
      rw [Option.bind_some, byte_back]
      rw [symb, if_neg hn]
      have hs := sym_has c
      cases hv : sym c with
      | true =>
        rw [hv] at hs
        rw [if_pos (of_decide_eq_true hs), if_pos (by omega), if_pos (by omega), if_pos rfl]
        refine ⟨_, rfl, ?_⟩
        rw [bs_extract, h]
        rfl
      | false =>
        rw [hv] at hs
        rw [if_neg (of_decide_eq_false hs), if_neg (by simp)]
        exact ⟨_, rfl, rfl⟩
theorem one_sym (s t : ByteArray) (l : List UInt8) (ht : lexer_symbol.f s = some t) (hl : bs t = l) (hn : l ≠ []) : Ev (fun k => lexer_one.j0 k s false) (outP (4, l, 0, l.length, 0)) := by
  refine Ev.next (fun k => by rw [lexer_one.j0]) ?_
  refine Ev.neg (by simp) ?_
  refine Ev.bindS ht ?_
  refine Ev.neg (fun e => hn (by rw [bs_eq_iff, hl] at e; exact e)) (Ev.done fun _ => ?_)
  subst hl
  rfl
theorem one_none (s t : ByteArray) (ht : lexer_symbol.f s = some t) (hl : bs t = []) : Ev (fun k => lexer_one.j0 k s false) (outP (bad 1)) := by
  refine Ev.next (fun k => by rw [lexer_one.j0]) ?_
  refine Ev.neg (by simp) ?_
  refine Ev.bindS ht ?_
  exact Ev.pos ((bs_eq_iff _ _).2 hl) (Ev.done fun _ => rfl)
theorem one_name (s : ByteArray) (hs : s.size ≤ 4611686018427387904) : Ev (fun k => lexer_one.j0 k s true) (outP (1, (bs s).takeWhile nam, 0, ((bs s).takeWhile nam).length, 0)) := by
  refine Ev.next (fun k => by rw [lexer_one.j0]) ?_
  refine Ev.pos rfl (Ev.both (run_name s hs) (Ev.done fun _ => ?_))
  have hr := bs_run s nam
  generalize s.extract 0 ((bs s).takeWhile nam).length = t at hr ⊢
  rw [← hr]
  rfl
theorem one_ev (s : ByteArray) (hne : bs s ≠ []) (hs : s.size ≤ 4611686018427387904) : Ev (fun k => lexer_one.f k s) (outP (tk (bs s))) := by
  cases h : bs s with
  | nil => exact absurd h hne
  | cons c r =>
    have hsz : s.size = r.length + 1 := by rw [← bs_length, h]; rfl
    have hg := bt_get s 0 c (by rw [h]; rfl)
    rw [show ((0 : Nat) : Int) = 0 from rfl] at hg
    have go : ∀ b, b = (nam c && c != 45) → Ev (fun k => lexer_one.j0 k s b) (outP (if (nam c && c != 45) = true then (1, (c :: r).takeWhile nam, 0, ((c :: r).takeWhile nam).length, 0)
            else if c = 62 ∧ r.head? = some 61 then (4, [62, 61], 0, 2, 0) else if sym c = true then (4, [c], 0, 1, 0) else bad 1)) := by
      intro b hb
      cases b with
      | true =>
        rw [if_pos hb.symm, ← h]
        exact one_name s hs
      | false =>
        rw [if_neg (by rw [← hb]; simp)]
        obtain ⟨t, ht, hts⟩ := symbol_f s
        rw [h, symb] at hts
        by_cases h1 : c = 62 ∧ r.head? = some 61
        · rw [if_pos h1] at hts ⊢
          exact one_sym s t _ ht hts (by simp)
        · rw [if_neg h1] at hts ⊢
          by_cases h2 : sym c = true
          · rw [if_pos h2] at hts ⊢
            exact one_sym s t _ ht hts (by simp)
          · rw [if_neg h2] at hts ⊢
            exact one_none s t ht hts
    unfold lexer_one.f
    refine Ev.pos (by omega) ?_
    rw [hg]
    refine Ev.bindS (dig_f c) ?_
    simp only [tk]
    by_cases hd : dig c = true
    · rw [if_pos hd]
      refine Ev.pos hd ?_
      rw [← h]
      exact Ev.both (number_ev s hs) (Ev.done fun _ => rfl)
    · rw [if_neg hd]
      refine Ev.neg hd ?_
      by_cases hq : c = 34
      · rw [if_pos hq]
        refine Ev.pos (by rw [hq]; rfl) ?_
        subst hq
        exact Ev.both (quoted_ev s r h hs) (Ev.done fun _ => rfl)
      · rw [if_neg hq]
        refine Ev.neg (fun e => hq (u8_eq e)) ?_
        refine Ev.bindS (name_f c) ?_
        cases hn : nam c with
        | true =>
          refine Ev.pos rfl ?_
          rw [hn] at go
          refine go _ ?_
          rw [Bool.true_and, Bool.eq_iff_iff]
          simp only [bne_iff_ne, ne_eq]
          exact ⟨fun h e => h (by rw [e]; rfl), fun h e => h (u8_eq e)⟩
        | false =>
          refine Ev.neg (by simp) ?_
          rw [hn] at go
          exact go _ rfl
end Go.Proofs.YtifhmdlgjojodaaDoor.Lex
end
section
namespace Go.Proofs.YtifhmdlgjojodaaDoor.Lex
open Go.RowKit Go.Proofs.YtifhmdlgjojodaaDoor.Q Go.Proofs.YtifhmdlgjojodaaDoorW.PrintWords Go.Proofs.YtifhmdlgjojodaaDoorW.PrintMore Go.Proofs.YtifhmdlgjojodaaDoorW.EvMore
theorem get_bs (s : ByteArray) (p : Nat) (h : p < s.size) : ∃ d, (bs s)[p]? = some d ∧ (s.get! p) = d := by
  have hl : p < (bs s).length := h
  refine ⟨(bs s)[p]'hl, List.getElem?_eq_getElem hl, ?_⟩
  have := get_at s p h
  rw [Nat.add_zero] at this
  rw [this]
  rfl
theorem decode_wide (s : ByteArray) (pos : Nat) (h : pos < s.size) (ha : 128 ≤ (s.get! pos).toNat) :
    pos + (Utf8.decode s pos).2 ≤ s.size ∧ ∀ j, 0 < j → j < (Utf8.decode s pos).2 → 128 ≤ (s.get! (pos + j)).toNat := by
  have hn : ¬ (s.get! (pos + 0)).toNat < 128 := by rw [Nat.add_zero]; omega
  simp only [Utf8.decode, hn, if_false]
  have k1 : ∀ k : Nat, ((decide (pos + k < s.size) && ((s.get! (pos + k)).toNat / 64 == 2)) = true) → pos + k < s.size ∧ 128 ≤ (s.get! (pos + k)).toNat := by
    intro k hk
    simp only [Bool.and_eq_true, decide_eq_true_eq, beq_iff_eq] at hk
    omega
  split
  · rename_i h2
    simp only [Bool.and_eq_true] at h2
    have c1 := k1 1 (by simpa using h2.2)
    split
    · exact ⟨by show pos + 2 ≤ _; omega, fun j h0 h1 => by
        have h1' : j < 2 := h1
        obtain rfl : j = 1 := by omega
        exact c1.2⟩
    · exact ⟨by show pos + 1 ≤ _; omega, fun j h0 h1 => by have h1' : j < 1 := h1; omega⟩
  · split
    · rename_i h2
      simp only [Bool.and_eq_true] at h2
      have c1 := k1 1 (by simpa using h2.1.2)
      have c2 := k1 2 (by simpa using h2.2)
      split
      · exact ⟨by show pos + 3 ≤ _; omega, fun j h0 h1 => by
          have h1' : j < 3 := h1
          rcases (by omega : j = 1 ∨ j = 2) with rfl | rfl
          · exact c1.2
          · exact c2.2⟩
      · exact ⟨by show pos + 1 ≤ _; omega, fun j h0 h1 => by have h1' : j < 1 := h1; omega⟩
    · split
      · rename_i h2
        simp only [Bool.and_eq_true] at h2
        have c1 := k1 1 (by simpa using h2.1.1.2)
        have c2 := k1 2 (by simpa using h2.1.2)
        have c3 := k1 3 (by simpa using h2.2)
        split
        · exact ⟨by show pos + 4 ≤ _; omega, fun j h0 h1 => by
            have h1' : j < 4 := h1
            rcases (by omega : j = 1 ∨ j = 2 ∨ j = 3) with rfl | rfl | rfl
            · exact c1.2
            · exact c2.2
            · exact c3.2⟩
        · exact ⟨by show pos + 1 ≤ _; omega, fun j h0 h1 => by have h1' : j < 1 := h1; omega⟩
      · exact ⟨by show pos + 1 ≤ _; omega, fun j h0 h1 => by have h1' : j < 1 := h1; omega⟩
theorem blank_skip (l : List UInt8) : ∀ (n : Nat), n ≤ l.length → (∀ j, j < n → ∃ d, l[j]? = some d ∧ 128 ≤ d.toNat) → blank l true = n + blank (l.drop n) true := by
  induction l with
  | nil => intro n hn _; simp at hn; subst hn; simp
  | cons c r ih =>
    intro n hn hd
    cases n with
    | zero => simp
    | succ n =>
      obtain ⟨d, hd0, hd1⟩ := hd 0 (by omega)
      simp at hd0
      subst hd0
      have hc : c ≠ 10 := by rintro rfl; exact absurd hd1 (by decide)
      rw [blank, if_neg hc, List.drop_succ_cons, ih n (by simpa using hn) (fun j hj => by simpa using hd (j + 1) (by omega))]
      omega
theorem blankGo_eq (s : ByteArray) : ∀ (b pos : Nat) (c : Bool), pos ≤ s.size → s.size < pos + b → blankGo s b pos c = ((pos + blank ((bs s).drop pos) c : Nat) : Int)
  | 0, pos, c, hp, hb => by omega
  | b + 1, pos, c, hp, hb => by
    by_cases h : pos < s.size
    · obtain ⟨d, hd, hdg⟩ := get_bs s pos h
      have hdr : (bs s).drop pos = d :: (bs s).drop (pos + 1) := by
        obtain ⟨hl, e⟩ := List.getElem?_eq_some_iff.1 hd
        rw [List.drop_eq_getElem_cons hl, e]
      rw [blankGo, if_pos h]
      by_cases ha : d.toNat < 128
      · have hdec : Utf8.decode s pos = (d.toNat, 1) := by
          have e : s[pos]'h = d := by
            have := get_at s pos h
            rw [Nat.add_zero, hdg] at this
            exact this.symm
          rw [decode_ascii s pos h (by rw [e]; exact ha), e]
        have k10 : (d.toNat = 10) ↔ d = 10 := ⟨fun e => UInt8.toNat_inj.1 (by rw [e]; rfl), fun e => by rw [e]; rfl⟩
        have k32 : (d.toNat = 32) ↔ d = 32 := ⟨fun e => UInt8.toNat_inj.1 (by rw [e]; rfl), fun e => by rw [e]; rfl⟩
        have k35 : (d.toNat = 35) ↔ d = 35 := ⟨fun e => UInt8.toNat_inj.1 (by rw [e]; rfl), fun e => by rw [e]; rfl⟩
        rw [hdec, hdr]
        simp only [k10, k32, k35]
        have i0 := blankGo_eq s b (pos + 1) false (by omega) (by omega)
        have i1 := blankGo_eq s b (pos + 1) true (by omega) (by omega)
        by_cases h10 : d = 10
        · rw [if_pos h10, i0]
          cases c with
          | false => rw [blank, if_pos (.inr h10)]; congr 1; omega
          | true => rw [blank, if_pos h10]; congr 1; omega
        · rw [if_neg h10]
          cases c with
          | true => rw [if_pos (.inr rfl), i1, blank, if_neg h10]; congr 1; omega
          | false =>
            by_cases h32 : d = 32
            · rw [if_pos (.inl h32), i0, blank, if_pos (.inl h32)]; congr 1; omega
            · have n1 : ¬ (d = 32 ∨ false = true) := by
                rintro (h | h)
                · exact h32 h
                · cases h
              have n2 : ¬ (d = 32 ∨ d = 10) := by
                rintro (h | h)
                · exact h32 h
                · exact h10 h
              rw [if_neg n1, blank, if_neg n2]
              by_cases h35 : d = 35
              · rw [if_pos h35, if_pos h35, i1]; congr 1; omega
              · rw [if_neg h35, if_neg h35]; rfl
      · have ha' : 128 ≤ (s.get! pos).toNat := by rw [hdg]; omega
        have hw := decode_wide s pos h ha'
        have hh := decode_high s pos h (by
          have := get_at s pos h
          rw [Nat.add_zero] at this
          rw [← this]; exact ha')
        generalize hde : Utf8.decode s pos = de at hw hh ⊢
        rw [if_neg (by omega), if_neg (c := de.1 = 35) (by omega)]
        have hall : ∀ j, j < de.2 → ∃ x, ((bs s).drop pos)[j]? = some x ∧ 128 ≤ x.toNat := by
          intro j hj
          obtain ⟨x, hx, hxg⟩ := get_bs s (pos + j) (by omega)
          refine ⟨x, by rw [List.getElem?_drop]; exact hx, ?_⟩
          rw [← hxg]
          rcases Nat.eq_zero_or_pos j with rfl | h0
          · rw [Nat.add_zero]; exact ha'
          · exact hw.2 j h0 hj
        cases c with
        | true =>
          rw [if_pos (.inr rfl), blankGo_eq s b (pos + de.2) true hw.1 (by omega), blank_skip ((bs s).drop pos) de.2 (by rw [List.length_drop, bs_length]; omega) hall, List.drop_drop]
          congr 1
          omega
        | false =>
          have hn : d ≠ 10 ∧ d ≠ 32 ∧ d ≠ 35 := by
            refine ⟨?_, ?_, ?_⟩ <;> (rintro rfl; exact ha (by decide))
          rw [if_neg (by simp; omega), hdr, blank, if_neg (by simp [hn]), if_neg hn.2.2]
          rfl
    · rw [blankGo, if_neg h, List.drop_of_length_le (by rw [bs_length]; omega)]
      simp [blank]
      omega
theorem blank_f (s : ByteArray) : lexer_blank.f s = some ((blank (bs s) false : Nat) : Int) := by
  unfold lexer_blank.f
  rw [blankGo_eq s _ 0 false (Nat.zero_le _) (by omega), List.drop_zero, Nat.zero_add]
def Rel (a : S36) (t : Tok) : Prop := a.f0 = t.kind ∧ bs a.f1 = t.text ∧ a.f2 = t.int ∧ a.f3 = (t.at_ : Int)
inductive Rels : List S36 → List Tok → Prop where
  | nil : Rels [] []
  | cons {a t xs ts} : Rel a t → Rels xs ts → Rels (a :: xs) (t :: ts)
theorem Rels.append {xs ys ts us} (h : Rels xs ts) (k : Rels ys us) : Rels (xs ++ ys) (ts ++ us) := by
  induction h with
  | nil => exact k
  | cons h1 _ ih => exact .cons h1 ih
theorem Rels.length {xs ts} (h : Rels xs ts) : xs.length = ts.length := by
  induction h with
  | nil => rfl
  | cons _ _ ih => simp [ih]
theorem tokens_step (s : ByteArray) (acc : List S36) (p n b : Nat) (o : Int × ByteArray × Int × Int × Int × Int) (hlt : p < s.size) (hone : Ev (fun k => lexer_one.f k (s.extract (p : Int).toNat s.size)) o) (he : o.2.2.2.2.2 = 0) (hn : o.2.2.2.2.1 = (n : Int))
    (hs : s.size ≤ 16384) (hpn : p + n ≤ s.size) (hacc : acc.length ≤ p) (hbf : lexer_blank.f (s.extract (((p + n : Nat) : Int)).toNat s.size) = some (b : Int)) (hb : p + n + b ≤ s.size) (res : List S36 × Int × Int)
    (hres : Ev (fun k => lexer_Tokens.l0 k s (acc ++ [(⟨o.1, o.2.1, o.2.2.1, (p : Int)⟩ : S36)]) ((p + n + b : Nat) : Int)) res) : Ev (fun k => lexer_Tokens.l0 k s acc p) res := by
  have e1 : wrap64 ((p : Int) + o.2.2.2.2.1) = ((p + n : Nat) : Int) := by
    rw [hn, wrap_in (by omega) (by omega)]
    omega
  have e2 : wrap64 (((p + n : Nat) : Int) + (b : Int)) = ((p + n + b : Nat) : Int) := by
    rw [wrap_in (by omega) (by omega)]
    omega
  have q1 : (p : Int) < (s.size : Int) := by omega
  have q2 : 0 ≤ (p : Int) := by omega
  have q3 : (p : Int) ≤ (s.size : Int) := by omega
  have q4 : acc.length < 3518437208883 := by omega
  have q5 : 0 ≤ ((p + n : Nat) : Int) := by omega
  have q6 : ((p + n : Nat) : Int) ≤ (s.size : Int) := by omega
  refine Ev.next (fun k => by rw [lexer_Tokens.l0]) ?_
  refine Ev.pos q1 (Ev.pos q2 (Ev.pos q3 ?_))
  refine Ev.both hone ?_
  refine Ev.pos he ?_
  refine Ev.pos q4 ?_
  rw [e1]
  refine Ev.pos q5 (Ev.pos q6 ?_)
  refine Ev.bindS hbf ?_
  rw [e2]
  exact hres
theorem tokens_bad (s : ByteArray) (acc : List S36) (p : Nat) (o : Int × ByteArray × Int × Int × Int × Int) (hlt : p < s.size) (hone : Ev (fun k => lexer_one.f k (s.extract (p : Int).toNat s.size)) o) (he : o.2.2.2.2.2 ≠ 0) : Ev (fun k => lexer_Tokens.l0 k s acc p) ([], (p : Int), o.2.2.2.2.2) := by
  have q1 : (p : Int) < (s.size : Int) := by omega
  have q2 : 0 ≤ (p : Int) := by omega
  have q3 : (p : Int) ≤ (s.size : Int) := by omega
  refine Ev.next (fun k => by rw [lexer_Tokens.l0]) ?_
  refine Ev.pos q1 (Ev.pos q2 (Ev.pos q3 ?_))
  refine Ev.both hone ?_
  exact Ev.neg he (Ev.done fun _ => rfl)
theorem tokens_end (s : ByteArray) (acc : List S36) (p : Nat) (hlt : ¬ p < s.size) : Ev (fun k => lexer_Tokens.l0 k s acc p) (acc, 0, 0) := by
  have q1 : ¬ (p : Int) < (s.size : Int) := by omega
  refine Ev.next (fun k => by rw [lexer_Tokens.l0]) ?_
  exact Ev.neg q1 (Ev.done fun _ => rfl)
def Outs (acc : List S36) (r : List Tok × Int × Int) (o : List S36 × Int × Int) : Prop :=
  ∃ xs, Rels xs r.1 ∧ o = (if r.2.2 = 0 then acc ++ xs else [], r.2.1, r.2.2)
theorem bs_tail (s : ByteArray) (p : Nat) : bs (s.extract (p : Int).toNat s.size) = (bs s).drop p := by
  rw [bs_extract, Int.toNat_natCast]
  exact List.take_of_length_le (by rw [List.length_drop, bs_length]; omega)
theorem lexGo_shape : ∀ (f p : Nat) (l : List UInt8), (lexGo f p l).2.2 = 0 → (lexGo f p l).2.1 = 0
  | 0, _, _, _ => rfl
  | f + 1, p, l, h => by
    rw [lexGo] at h ⊢
    split
    · rfl
    · rename_i hl
      rw [if_neg hl] at h
      simp only at h ⊢
      split
      · rename_i h1; rw [if_pos h1] at h; exact absurd h h1
      · rename_i h1
        rw [if_neg h1] at h
        split
        · rename_i h2; rw [if_pos h2] at h; exact absurd h h2
        · rfl
theorem tokens_loop (s : ByteArray) (hs : s.size ≤ 16384) : ∀ (f p : Nat) (acc : List S36), p ≤ s.size → s.size < p + f → acc.length ≤ p →
    ∃ o, Ev (fun k => lexer_Tokens.l0 k s acc p) o ∧ Outs acc (lexGo f p ((bs s).drop p)) o
  | 0, p, acc, h1, h2, h3 => by omega
  | f + 1, p, acc, h1, h2, h3 => by
    by_cases hlt : p < s.size
    · have hlen : ((bs s).drop p).length = s.size - p := by rw [List.length_drop, bs_length]
      have hne : (bs s).drop p ≠ [] := by
        intro e
        rw [e] at hlen
        simp at hlen
        omega
      have hone := one_ev (s.extract (p : Int).toNat s.size) (by rw [bs_tail]; exact hne) (by rw [size_extract]; omega)
      rw [bs_tail] at hone
      have htl := tk_len ((bs s).drop p)
      rw [hlen] at htl
      rw [lexGo, if_neg hne]
      simp only [List.drop_drop]
      generalize tk ((bs s).drop p) = t at hone htl ⊢
      by_cases he : t.2.2.2.2 = 0
      · have htl := htl he
        rw [if_neg (show ¬ t.2.2.2.2 ≠ 0 from fun h => h he)]
        have hbl := blank_le ((bs s).drop (p + t.2.2.2.1)) false
        rw [List.length_drop, bs_length] at hbl
        have hbf := blank_f (s.extract (((p + t.2.2.2.1 : Nat) : Int)).toNat s.size)
        rw [bs_tail] at hbf
        generalize blank ((bs s).drop (p + t.2.2.2.1)) false = b at hbl hbf ⊢
        obtain ⟨o, hev, xs, hrel, ho⟩ := tokens_loop s hs f (p + t.2.2.2.1 + b) (acc ++ [(⟨t.1, ⟨t.2.1.toArray⟩, t.2.2.1, (p : Int)⟩ : S36)]) (by omega) (by omega) (by simp; omega)
        have hres := tokens_step s acc p t.2.2.2.1 b (outP t) hlt hone he rfl hs (by omega) h3 hbf (by omega) o hev
        have hsh := lexGo_shape f (p + t.2.2.2.1 + b) ((bs s).drop (p + t.2.2.2.1 + b))
        generalize lexGo f (p + t.2.2.2.1 + b) ((bs s).drop (p + t.2.2.2.1 + b)) = r at hrel ho hsh ⊢
        refine ⟨o, hres, ?_⟩
        by_cases hr : r.2.2 = 0
        · rw [if_neg (fun h => h hr)]
          refine ⟨(⟨t.1, ⟨t.2.1.toArray⟩, t.2.2.1, (p : Int)⟩ : S36) :: xs, .cons ⟨rfl, rfl, rfl, rfl⟩ hrel, ?_⟩
          rw [ho, if_pos hr, hr, hsh hr, List.append_assoc]
          rfl
        · rw [if_pos hr]
          refine ⟨[], .nil, ?_⟩
          rw [ho, if_neg hr, if_neg hr]
      · rw [if_pos he]
        exact ⟨_, tokens_bad s acc p _ hlt hone he, [], .nil, by rw [if_neg he]; rfl⟩
    · have hnil : (bs s).drop p = [] := List.drop_of_length_le (by rw [bs_length]; omega)
      rw [hnil, lexGo, if_pos rfl]
      exact ⟨_, tokens_end s acc p hlt, [], .nil, by simp⟩
theorem tokens_ev (s : ByteArray) (hs : s.size ≤ 4611686018427387904) : ∃ o, Ev (fun k => lexer_Tokens.f k s) o ∧ Outs [] (lex (bs s)) o := by
  unfold lexer_Tokens.f lex
  by_cases hbig : 16384 < s.size
  · rw [if_pos (show 16384 < (bs s).length from hbig)]
    exact ⟨_, Ev.pos (by omega) (Ev.done fun _ => rfl), [], .nil, rfl⟩
  · have hbl := blank_le (bs s) false
    rw [if_neg (show ¬ 16384 < (bs s).length from hbig)]
    obtain ⟨o, hev, ho⟩ := tokens_loop s (by omega) ((bs s).length + 1) (blank (bs s) false) [] hbl (by rw [bs_length]; omega) (by simp)
    exact ⟨o, Ev.neg (by omega) (Ev.bindS (blank_f s) hev), ho⟩
end Go.Proofs.YtifhmdlgjojodaaDoor.Lex
end
section
namespace Go.Proofs.YtifhmdlgjojodaaDoor.Lex
open Go.RowKit Go.Proofs.YtifhmdlgjojodaaDoor.Q Go.Proofs.YtifhmdlgjojodaaDoorW.PrintWords
set_option maxRecDepth 100000 in
theorem lives_f : tapearchivelaw28_lives.f 40 = some true := by kernel_rfl
end Go.Proofs.YtifhmdlgjojodaaDoor.Lex
end
section
namespace Go.Proofs.YtifhmdlgjojodaaDoor.Lex
open Go.RowKit Go.Proofs.YtifhmdlgjojodaaDoor.Q Go.Proofs.YtifhmdlgjojodaaDoorW.PrintWords Go.Proofs.YtifhmdlgjojodaaDoorW.PrintMore Go.Proofs.YtifhmdlgjojodaaDoorW.EvMore
theorem lives_ev : Ev (fun k => tapearchivelaw28_lives.f k) true := by
  refine ⟨40, fun k hk => ?_⟩
  induction k with
  | zero => omega
  | succ k ih =>
    by_cases h : 40 ≤ k
    · exact tapearchivelaw28_lives.mono k _ (ih h)
    · have : k + 1 = 40 := by omega
      rw [this]
      exact lives_f
def Sm (b : Bool) (x y : S36) : Prop := x.f0 = y.f0 ∧ x.f1 = y.f1 ∧ x.f2 = y.f2 ∧ (b = true → x.f3 = y.f3)
theorem same_loop (b : Bool) (xs ys : List S36) (hl : xs.length = ys.length) (hn : xs.length ≤ 4611686018427387904) (h : ∀ i, i < xs.length → Sm b (xs.getD i z36) (ys.getD i z36)) (d : Nat) : ∀ i, i ≤ xs.length → xs.length - i = d → Ev (fun k => tapearchiveref28_Same.l0 k xs ys b i) true := by
  induction d with
  | zero =>
    intro i h1 h2
    have q : ¬ (i : Int) < (xs.length : Int) := by omega
    refine Ev.next (fun k => by rw [tapearchiveref28_Same.l0]) ?_
    exact Ev.neg q (Ev.done fun _ => rfl)
  | succ d ih =>
    intro i h1 h2
    have hlt : i < xs.length := by omega
    have q1 : (i : Int) < (xs.length : Int) := by omega
    have q2 : 0 ≤ (i : Int) := by omega
    have q3 : (i : Int) < (ys.length : Int) := by omega
    have hw : wrap64 ((i : Int) + 1) = ((i + 1 : Nat) : Int) := by rw [wrap_in (by omega) (by omega)]; omega
    obtain ⟨g0, g1, g2, g3⟩ := h i hlt
    have ihn := ih (i + 1) (by omega) (by omega)
    have j : Ev (fun k => tapearchiveref28_Same.j1 k xs ys b i false) true := by
      refine Ev.next (fun k => by rw [tapearchiveref28_Same.j1]) ?_
      rw [hw]
      exact Ev.neg (by simp) ihn
    refine Ev.next (fun k => by rw [tapearchiveref28_Same.l0]) ?_
    refine Ev.pos q1 (Ev.pos q2 (Ev.pos q3 (Ev.pos g0 (Ev.pos (by unfold rd_T36; rw [Int.toNat_natCast, g1]) (Ev.pos g2 ?_)))))
    cases b with
    | false => exact Ev.neg (by simp) j
    | true =>
      have e : ((rd_T36 xs (i : Int)).f3 != (rd_T36 ys (i : Int)).f3) = false := by
        unfold rd_T36
        rw [Int.toNat_natCast, g3 rfl]
        simp
      rw [e]
      exact Ev.pos rfl j
theorem same_ev (b : Bool) (xs ys : List S36) (hl : xs.length = ys.length) (hn : xs.length ≤ 4611686018427387904) (h : ∀ i, i < xs.length → Sm b (xs.getD i z36) (ys.getD i z36)) : Ev (fun k => tapearchiveref28_Same.f k xs ys b) true :=
  Ev.pos (by omega) (same_loop b xs ys hl hn h _ 0 (Nat.zero_le _) rfl)
theorem Rels.get {xs ts} (h : Rels xs ts) : ∀ i, i < xs.length → ∃ t, ts[i]? = some t ∧ Rel (xs.getD i z36) t := by
  induction h with
  | nil => intro i hi; simp at hi
  | @cons a t xs ts h1 _ ih =>
    intro i hi
    cases i with
    | zero => exact ⟨t, rfl, h1⟩
    | succ i =>
      obtain ⟨u, hu, hr⟩ := ih i (by simpa using hi)
      exact ⟨u, by simpa using hu, by simpa using hr⟩
end Go.Proofs.YtifhmdlgjojodaaDoor.Lex
end
section
namespace Go.Proofs.YtifhmdlgjojodaaDoor.Lex
open Go.RowKit Go.Proofs.YtifhmdlgjojodaaDoor.Q Go.Proofs.YtifhmdlgjojodaaDoorW.PrintWords Go.Proofs.YtifhmdlgjojodaaDoorW.PrintMore Go.Proofs.YtifhmdlgjojodaaDoorW.EvMore
def isName : List UInt8 → Bool
  | [] => false
  | c :: r => !dig c && c != 45 && (c :: r).all nam
def quo (t : List UInt8) : List UInt8 := if t.all pln = true then 34 :: t ++ [34] else []
def wd (k : Int) (t : List UInt8) (n : Int) : List UInt8 :=
  if k = 2 then (if t = [] ∧ 0 ≤ n ∧ n ≤ 1125899906842624 then Lib.decDigits n.toNat else [])
  else if k = 3 then (if n = 0 then quo t else [])
  else if k = 1 then (if n = 0 ∧ isName t = true then t else [])
  else if k = 4 then (if n = 0 ∧ symT t = true then t else [])
  else []
def tot (ws : List (List UInt8)) : Nat := (ws.map fun w => w.length + 1).sum
def txt (ws : List (List UInt8)) : List UInt8 := if ([] : List UInt8) ∈ ws ∨ 16385 < tot ws then [] else Lib.join ws [32]
theorem takeWhile_iff (p : UInt8 → Bool) (l : List UInt8) : l.takeWhile p = l ↔ l.all p = true := by
  constructor
  · intro h; rw [← h]; exact takeWhile_all p l
  · intro h
    have := List.takeWhile_append_of_pos (p := p) (l₁ := l) (l₂ := []) (fun a ha => List.all_eq_true.1 h a ha)
    simpa using this
theorem bs_size {s : ByteArray} {l : List UInt8} (h : bs s = l) : s.size = l.length := by rw [← bs_length, h]
theorem quote_ev (s : ByteArray) (hs : s.size ≤ 4611686018427387904) : Ev (fun k => lexer_Quote.f k s) ⟨(quo (bs s)).toArray⟩ := by
  unfold lexer_Quote.f quo
  refine Ev.both (run_plain s hs) ?_
  have hr := bs_run s pln
  have hi := takeWhile_iff pln (bs s)
  by_cases h : (bs s).all pln = true
  · rw [if_pos h]
    refine Ev.pos (by rw [toList_bs, toList_bs, hr, hi.2 h]) (Ev.pos (by omega) (Ev.pos (by omega) (Ev.done fun _ => ?_)))
    congr 1
  · rw [if_neg h]
    exact Ev.neg (by rw [toList_bs, toList_bs, hr, hi]; exact h) (Ev.done fun _ => rfl)
theorem symT_symb (l : List UInt8) (h : l ≠ []) : symb l = l ↔ symT l = true := by
  match l with
  | [] => exact absurd rfl h
  | [c] =>
    have e : ¬ (c = 62 ∧ ([] : List UInt8).head? = some 61) := by simp
    simp only [symb]
    rw [if_neg e]
    by_cases hs : sym c = true
    · simp [hs, symT]
    · simp [hs, symT]
  | [c, d] =>
    simp only [symb]
    by_cases hc : c = 62 ∧ d = 61
    · simp [hc, symT]
    · have e : ¬ (c = 62 ∧ [d].head? = some 61) := by simpa using hc
      rw [if_neg e]
      by_cases hs : sym c = true
      · simp [hs, symT]
        intro a b; exact hc ⟨a, b⟩
      · simp [hs, symT]
        intro a b; exact hc ⟨a, b⟩
  | c :: d :: f :: r =>
    simp only [symb]
    split
    · simp [symT]
    · split <;> simp [symT]
theorem word_ev (a0 : Int) (a1 : ByteArray) (a2 a3 : Int) (hs : a1.size ≤ 4611686018427387904) : Ev (fun k => lexer_word.f k a0 a1 a2 a3) ⟨(wd a0 (bs a1) a2).toArray⟩ := by
  have no : wd a0 (bs a1) a2 = [] → (⟨(wd a0 (bs a1) a2).toArray⟩ : ByteArray) = ⟨#[]⟩ := fun h => by rw [h]
  have yes : wd a0 (bs a1) a2 = bs a1 → (⟨(wd a0 (bs a1) a2).toArray⟩ : ByteArray) = a1 := fun h => by rw [h]; exact bs_inj rfl
  unfold lexer_word.f
  by_cases h2 : a0 = 2
  · have hw : wd a0 (bs a1) a2 = if bs a1 = [] ∧ 0 ≤ a2 ∧ a2 ≤ 1125899906842624 then Lib.decDigits a2.toNat else [] := if_pos h2
    refine Ev.pos h2 ?_
    by_cases ht : bs a1 = []
    · refine Ev.pos (by rw [toList_bs]; exact ht) ?_
      by_cases h0 : a2 ≥ 0
      · refine Ev.pos h0 ?_
        by_cases hm : a2 ≤ 1125899906842624
        · have hw2 := hw.trans (if_pos ⟨ht, h0, hm⟩)
          rw [hw2]
          refine Ev.pos hm (Ev.bindS (a := ⟨(Lib.itoa a2).toArray⟩) ?_ (Ev.done fun _ => ?_))
          · unfold strconv_Itoa.f; exact if_pos ⟨by omega, by omega⟩
          · unfold Lib.itoa; rw [if_neg (by omega)]
        · rw [no (hw.trans (if_neg fun h => hm h.2.2))]
          exact Ev.neg hm (Ev.done fun _ => rfl)
      · rw [no (hw.trans (if_neg fun h => h0 h.2.1))]
        exact Ev.neg h0 (Ev.done fun _ => rfl)
    · rw [no (hw.trans (if_neg fun h => ht h.1))]
      exact Ev.neg (by rw [toList_bs]; exact ht) (Ev.done fun _ => rfl)
  · refine Ev.neg h2 ?_
    by_cases h3 : a0 = 3
    · have hw : wd a0 (bs a1) a2 = if a2 = 0 then quo (bs a1) else [] := (if_neg h2).trans (if_pos h3)
      refine Ev.pos h3 ?_
      by_cases h0 : a2 = 0
      · rw [hw.trans (if_pos h0)]
        exact Ev.pos h0 (Ev.both (quote_ev a1 hs) (Ev.done fun _ => rfl))
      · rw [no (hw.trans (if_neg h0))]
        exact Ev.neg h0 (Ev.done fun _ => rfl)
    · refine Ev.neg h3 ?_
      by_cases h1 : a0 = 1
      · have hw : wd a0 (bs a1) a2 = if a2 = 0 ∧ isName (bs a1) = true then bs a1 else [] := (if_neg h2).trans ((if_neg h3).trans (if_pos h1))
        refine Ev.pos h1 ?_
        by_cases h0 : a2 = 0
        · refine Ev.pos h0 ?_
          by_cases hb0 : bs a1 = []
          · rw [no (hw.trans (if_neg (by rintro ⟨_, h⟩; rw [hb0] at h; simp [isName] at h)))]
            exact Ev.pos (by rw [toList_bs]; exact hb0) (Ev.done fun _ => rfl)
          · obtain ⟨c, r, hb⟩ := List.exists_cons_of_ne_nil hb0
            refine Ev.neg (by rw [toList_bs]; exact hb0) (Ev.both (run_name a1 hs) ?_)
            have hr := bs_run a1 nam
            have hi := takeWhile_iff nam (bs a1)
            by_cases ha : (bs a1).all nam = true
            · refine Ev.pos (by rw [toList_bs, toList_bs, hr, hi.2 ha]) (Ev.pos (by have := bs_size hb; simp at this; omega) ?_)
              rw [show bt a1 0 = (c.toNat : Int) from bt_get a1 0 c (by rw [hb]; rfl)]
              refine Ev.bindS (dig_f c) ?_
              rw [hb] at ha
              by_cases hd : dig c = true
              · rw [no (hw.trans (if_neg (by rintro ⟨_, h⟩; rw [hb] at h; simp [isName, hd] at h)))]
                exact Ev.pos hd (Ev.done fun _ => rfl)
              · refine Ev.neg hd ?_
                by_cases h45 : c = 45
                · rw [no (hw.trans (if_neg (by rintro ⟨_, h⟩; rw [hb] at h; simp [isName, h45] at h)))]
                  exact Ev.pos (by rw [h45]; rfl) (Ev.done fun _ => rfl)
                · rw [yes (hw.trans (if_pos ⟨h0, by rw [hb]; simp only [isName]; rw [ha]; simp [hd, h45]⟩))]
                  exact Ev.neg (fun e => h45 (u8_eq e)) (Ev.done fun _ => rfl)
            · rw [no (hw.trans (if_neg (by rintro ⟨_, h⟩; rw [hb] at h ha; simp only [isName, Bool.and_eq_true] at h; exact ha h.2)))]
              exact Ev.neg (by rw [toList_bs, toList_bs, hr, hi]; exact ha) (Ev.done fun _ => rfl)
        · rw [no (hw.trans (if_neg fun h => h0 h.1))]
          exact Ev.neg h0 (Ev.done fun _ => rfl)
      · refine Ev.neg h1 ?_
        by_cases h4 : a0 = 4
        · have hw : wd a0 (bs a1) a2 = if a2 = 0 ∧ symT (bs a1) = true then bs a1 else [] := (if_neg h2).trans ((if_neg h3).trans ((if_neg h1).trans (if_pos h4)))
          refine Ev.pos h4 ?_
          by_cases h0 : a2 = 0
          · refine Ev.pos h0 ?_
            by_cases hn : bs a1 = []
            · rw [no (hw.trans (if_neg (by rintro ⟨_, h⟩; rw [hn] at h; simp [symT] at h)))]
              exact Ev.pos (by rw [toList_bs]; exact hn) (Ev.done fun _ => rfl)
            · refine Ev.neg (by rw [toList_bs]; exact hn) ?_
              obtain ⟨t, ht, hbt⟩ := symbol_f a1
              refine Ev.bindS ht ?_
              have hi := symT_symb (bs a1) hn
              by_cases hy : symT (bs a1) = true
              · rw [yes (hw.trans (if_pos ⟨h0, hy⟩))]
                exact Ev.pos (by rw [toList_bs, toList_bs, hbt, hi.2 hy]) (Ev.done fun _ => rfl)
              · rw [no (hw.trans (if_neg fun h => hy h.2))]
                exact Ev.neg (by rw [toList_bs, toList_bs, hbt, hi]; exact hy) (Ev.done fun _ => rfl)
          · rw [no (hw.trans (if_neg fun h => h0 h.1))]
            exact Ev.neg h0 (Ev.done fun _ => rfl)
        · rw [no ((if_neg h2).trans ((if_neg h3).trans ((if_neg h1).trans (if_neg h4))))]
          exact Ev.neg h4 (Ev.done fun _ => rfl)
def wds (l : List S36) : List (List UInt8) := l.map fun x => wd x.f0 (bs x.f1) x.f2
theorem tot_append (a b : List (List UInt8)) : tot (a ++ b) = tot a + tot b := by simp [tot]
theorem tot_take_le (ws : List (List UInt8)) (i : Nat) : tot (ws.take i) ≤ tot ws := by
  conv => rhs; rw [← List.take_append_drop i ws, tot_append]
  omega
theorem tot_one (w : List UInt8) : tot [w] = w.length + 1 := by simp [tot]
theorem join_tot : ∀ ws : List (List UInt8), ws ≠ [] → (Lib.join ws [32]).length + 1 = tot ws
  | [], h => absurd rfl h
  | x :: r, _ => by
    rw [Lib.join_length]
    have : ∀ r : List (List UInt8), tot r = r.length + Lib.lens r := by
      intro r
      induction r with
      | nil => rfl
      | cons a r ih =>
        have h1 : tot (a :: r) = a.length + 1 + tot r := by simp [tot]
        have h2 : Lib.lens (a :: r) = a.length + Lib.lens r := by simp [Lib.lens]
        rw [h1, h2, ih]
        simp only [List.length_cons]
        omega
    rw [this]
    simp only [List.length_cons, List.length_nil]
    omega
theorem join_le (ws : List (List UInt8)) : (Lib.join ws [32]).length ≤ tot ws := by
  by_cases h : ws = []
  · rw [h]; simp [Lib.join, tot]
  · have := join_tot ws h; omega
theorem tot_ge (ws : List (List UInt8)) : ws.length ≤ tot ws := by
  induction ws with
  | nil => simp
  | cons a r ih =>
    have h1 : tot (a :: r) = a.length + 1 + tot r := by simp [tot]
    rw [h1]; simp only [List.length_cons]; omega
theorem text_loop (l : List S36) (hl : l.length ≤ 4611686018427387904) (hsz : ∀ x ∈ l, x.f1.size ≤ 4611686018427387904) (hws : ∀ w ∈ wds l, w.length ≤ 4611686018427387904) (d : Nat) : ∀ (i : Nat) (acc : List ByteArray), i ≤ l.length → l.length - i = d → acc.map (·.data.toList) = (wds l).take i → ([] : List UInt8) ∉ (wds l).take i → tot ((wds l).take i) ≤ 16385 →
    Ev (fun k => lexer_Text.l0 k acc (tot ((wds l).take i) : Int) l (l.length : Int) i) ⟨(txt (wds l)).toArray⟩ := by
  have hlw : (wds l).length = l.length := by simp [wds]
  induction d with
  | zero =>
    intro i acc h1 h2 h3 h4 h5
    have q1 : ¬ (i : Int) < (l.length : Int) := by omega
    have hfull : (wds l).take i = wds l := List.take_of_length_le (by omega)
    rw [hfull] at h3 h4 h5 ⊢
    refine Ev.next (fun k => by rw [lexer_Text.l0]) ?_
    have hj := join_le (wds l)
    have hg := tot_ge (wds l)
    have hal : acc.length = l.length := by rw [← hlw, ← h3, List.length_map]
    refine Ev.neg q1 (Ev.bindS (a := ⟨(Lib.join (wds l) [32]).toArray⟩) ?_ (Ev.done fun _ => ?_))
    · unfold strings_Join.f
      rw [h3]
      exact if_pos ⟨by omega, Nat.le_trans hj (by omega)⟩
    · unfold txt
      rw [if_neg (by rintro (h | h); exact h4 h; omega)]
  | succ d ih =>
    intro i acc h1 h2 h3 h4 h5
    have hlt : i < l.length := by omega
    have q1 : (i : Int) < (l.length : Int) := by omega
    have q2 : 0 ≤ (i : Int) := by omega
    have hget : l[i]? = some (l[i]'hlt) := List.getElem?_eq_getElem hlt
    have hrd : rd_T36 l (i : Int) = l[i]'hlt := by unfold rd_T36; rw [Int.toNat_natCast, List.getD_eq_getElem?_getD, hget]; rfl
    have hwi : (wds l)[i]? = some (wd (l[i]'hlt).f0 (bs (l[i]'hlt).f1) (l[i]'hlt).f2) := by
      unfold wds
      rw [List.getElem?_map, hget]
      rfl
    have hmem : l[i]'hlt ∈ l := List.getElem_mem hlt
    have hwe := word_ev (l[i]'hlt).f0 (l[i]'hlt).f1 (l[i]'hlt).f2 (l[i]'hlt).f3 (hsz _ hmem)
    have hwl := hws (wd (l[i]'hlt).f0 (bs (l[i]'hlt).f1) (l[i]'hlt).f2) (List.mem_of_getElem? hwi)
    generalize wd (l[i]'hlt).f0 (bs (l[i]'hlt).f1) (l[i]'hlt).f2 = w at hwi hwe hwl
    have hlt2 : i < (wds l).length := by omega
    have hts : (wds l).take (i + 1) = (wds l).take i ++ [w] := by
      rw [List.take_succ_eq_append_getElem hlt2]
      rw [List.getElem?_eq_getElem hlt2] at hwi
      rw [Option.some.inj hwi]
    have htt : tot ((wds l).take (i + 1)) = tot ((wds l).take i) + (w.length + 1) := by rw [hts, tot_append, tot_one]
    have hle := tot_take_le (wds l) (i + 1)
    have hge := tot_ge ((wds l).take i)
    rw [List.length_take] at hge
    have hal : acc.length = i := by
      have := congrArg List.length h3
      rw [List.length_map, List.length_take] at this
      omega
    have ihn := ih (i + 1) (acc ++ [⟨w.toArray⟩]) (by omega) (by omega) (by rw [List.map_append, h3, hts]; rfl)
    generalize tot ((wds l).take (i + 1)) = T' at htt hle ihn
    generalize tot ((wds l).take i) = T at h5 htt hge ⊢
    have e0 : wrap64 (((⟨w.toArray⟩ : ByteArray).size : Int) + 1) = ((w.length + 1 : Nat) : Int) := by
      rw [show (⟨w.toArray⟩ : ByteArray).size = w.length from rfl, wrap_in (by omega) (by omega)]; omega
    have e1 : wrap64 ((T : Int) + ((w.length + 1 : Nat) : Int)) = (T' : Int) := by
      clear e0
      rw [wrap_in (by omega) (by omega)]; omega
    have e2 : wrap64 ((i : Int) + 1) = ((i + 1 : Nat) : Int) := by
      clear e0 e1
      rw [wrap_in (by omega) (by omega)]; omega
    refine Ev.next (fun k => by rw [lexer_Text.l0]) ?_
    rw [hrd]
    refine Ev.pos q1 (Ev.pos q2 (Ev.pos q1 (Ev.both hwe ?_)))
    rw [e0, e1, e2]
    clear e0 e1 e2
    by_cases hwn : w = []
    · have : txt (wds l) = [] := by unfold txt; rw [if_pos (.inl (by rw [← hwn]; exact List.mem_of_getElem? hwi))]
      rw [this]
      exact Ev.pos (by rw [toList_bs]; exact hwn) (Ev.done fun _ => rfl)
    · refine Ev.neg (by rw [toList_bs]; exact hwn) ?_
      by_cases hbig : 16385 < T'
      · have : txt (wds l) = [] := by unfold txt; rw [if_pos (.inr (by omega))]
        rw [this]
        exact Ev.pos (by omega) (Ev.done fun _ => rfl)
      · refine Ev.neg (by omega) (Ev.pos (by omega) (ihn ?_ (by omega)))
        rw [hts]
        intro hm
        rcases List.mem_append.1 hm with hm | hm
        · exact h4 hm
        · exact hwn (List.mem_singleton.1 hm).symm
theorem dec_len : ∀ (d u : Nat), 1 ≤ d → u < 10 ^ d → (Lib.decDigits u).length ≤ d
  | 0, u, h, _ => by omega
  | d + 1, u, _, h => by
    rw [Lib.decDigits]
    split
    · simp
    · rename_i hu
      have h1 : u / 10 < 10 ^ d := by rw [Nat.pow_succ] at h; omega
      have hd : 1 ≤ d := by
        cases d with
        | zero => simp at h1; omega
        | succ d => omega
      have := dec_len d (u / 10) hd h1
      simp only [List.length_append, List.length_cons, List.length_nil]
      omega
theorem wd_len (k : Int) (t : List UInt8) (n : Int) : (wd k t n).length ≤ t.length + 32 := by
  unfold wd quo
  split
  · split
    · rename_i h
      have := dec_len 17 n.toNat (by omega) (by omega)
      omega
    · simp
  · repeat' split
    all_goals simp
theorem text_ev (l : List S36) (hl : l.length ≤ 4611686018427387904) (hsz : ∀ x ∈ l, x.f1.size ≤ 4611686018427387800) : Ev (fun k => lexer_Text.f k l) ⟨(txt (wds l)).toArray⟩ := by
  refine text_loop l hl (fun x hx => by have := hsz x hx; omega) ?_ _ 0 [] (Nat.zero_le _) rfl rfl (by simp) (by simp [tot])
  intro w hw
  unfold wds at hw
  obtain ⟨x, hx, rfl⟩ := List.mem_map.1 hw
  have h1 := wd_len x.f0 (bs x.f1) x.f2
  have h2 := hsz x hx
  rw [bs_length] at h1
  omega
end Go.Proofs.YtifhmdlgjojodaaDoor.Lex
end
section
namespace Go.Proofs.YtifhmdlgjojodaaDoor.Lex
open Go.RowKit Go.Proofs.YtifhmdlgjojodaaDoor.Q Go.Proofs.YtifhmdlgjojodaaDoorW.PrintWords Go.Proofs.YtifhmdlgjojodaaDoorW.PrintMore Go.Proofs.YtifhmdlgjojodaaDoorW.EvMore
theorem byte_all (P : UInt8 → Bool) (h : ∀ n : Fin 256, P (UInt8.ofNat n.val) = true) (c : UInt8) : P c = true := by
  have := h ⟨c.toNat, c.toNat_lt⟩
  simpa using this
theorem sep_facts (c : UInt8) (h : c = 32 ∨ c = 10 ∨ c = 35) : nam c = false ∧ dig c = false := by
  rcases h with rfl | rfl | rfl <;> decide
theorem sym_facts (c : UInt8) (h : sym c = true) : dig c = false ∧ c ≠ 34 ∧ nam c = false ∧ c ≠ 62 ∧ c ≠ 32 ∧ c ≠ 10 ∧ c ≠ 35 := by
  have := byte_all (fun c => !sym c || (!dig c && c != 34 && !nam c && c != 62 && c != 32 && c != 10 && c != 35)) (by decide +kernel) c
  simp only [h, Bool.not_true, Bool.false_or, Bool.and_eq_true, bne_iff_ne, ne_eq, Bool.not_eq_true'] at this
  obtain ⟨⟨⟨⟨⟨⟨a, b⟩, c⟩, d⟩, e⟩, f⟩, g⟩ := this
  exact ⟨a, b, c, d, e, f, g⟩
theorem nam_facts (c : UInt8) (h : nam c = true) : c ≠ 34 ∧ c ≠ 32 ∧ c ≠ 10 ∧ c ≠ 35 := by
  have := byte_all (fun c => !nam c || (c != 34 && c != 32 && c != 10 && c != 35)) (by decide +kernel) c
  simp only [h, Bool.not_true, Bool.false_or, Bool.and_eq_true, bne_iff_ne, ne_eq] at this
  obtain ⟨⟨⟨a, b⟩, c⟩, d⟩ := this
  exact ⟨a, b, c, d⟩
theorem dig_nam (c : UInt8) (h : dig c = true) : nam c = true := by simp [nam, h]
def Sepd (r : List UInt8) : Prop := r = [] ∨ ∃ c r', r = c :: r' ∧ (c = 32 ∨ c = 10 ∨ c = 35)
theorem tw_app (p : UInt8 → Bool) (a r : List UInt8) (ha : a.all p = true) (hr : r.takeWhile p = []) : (a ++ r).takeWhile p = a := by
  rw [List.takeWhile_append_of_pos (fun x h => List.all_eq_true.1 ha x h), hr, List.append_nil]
theorem Sepd.nam {r : List UInt8} (h : Sepd r) : r.takeWhile nam = [] := by
  rcases h with rfl | ⟨c, r', rfl, hc⟩
  · rfl
  · rw [List.takeWhile_cons, (sep_facts c hc).1]; rfl
theorem Sepd.dig {r : List UInt8} (h : Sepd r) : r.takeWhile dig = [] := by
  rcases h with rfl | ⟨c, r', rfl, hc⟩
  · rfl
  · rw [List.takeWhile_cons, (sep_facts c hc).2]; rfl
theorem val_append (a : List UInt8) (c : UInt8) : val (a ++ [c]) = 10 * val a + (c.toNat - 48) := val_snoc a c
theorem dec_facts : ∀ (d u : Nat), u < 10 ^ d → (Lib.decDigits u).all dig = true ∧ val (Lib.decDigits u) = u ∧ (1 < (Lib.decDigits u).length → (Lib.decDigits u).head? ≠ some 48) ∧ (Lib.decDigits u ≠ []) ∧ (1 ≤ u → (Lib.decDigits u).head? ≠ some 48)
  | 0, u, h => by
    have : u = 0 := by simp at h; omega
    subst this
    refine ⟨by decide +kernel, by decide +kernel, by decide +kernel, by decide +kernel, by omega⟩
  | d + 1, u, h => by
    have one : ∀ n : Fin 10, dig (UInt8.ofNat (48 + n.val)) = true ∧ (UInt8.ofNat (48 + n.val)).toNat = 48 + n.val ∧ (UInt8.ofNat (48 + n.val) = 48 → n.val = 0) := by decide +kernel
    by_cases hu : u < 10
    · obtain ⟨h1, h2, h3⟩ := one ⟨u, hu⟩
      simp only at h1 h2 h3
      rw [Lib.decDigits, dif_pos hu]
      generalize UInt8.ofNat (48 + u) = c at h1 h2 h3 ⊢
      refine ⟨by simp [h1], by simp [val, h2], by simp, by simp, ?_⟩
      intro hp he
      have := h3 (Option.some.inj he)
      omega
    · obtain ⟨h1, h2, h3⟩ := one ⟨u % 10, Nat.mod_lt _ (by omega)⟩
      simp only at h1 h2 h3
      obtain ⟨i1, i2, i3, i4, i5⟩ := dec_facts d (u / 10) (by rw [Nat.pow_succ] at h; omega)
      have i6 := i5 (by omega)
      have hh : (Lib.decDigits (u / 10) ++ [UInt8.ofNat (48 + u % 10)]).head? = (Lib.decDigits (u / 10)).head? := by
        obtain ⟨a, r, e⟩ := List.exists_cons_of_ne_nil i4
        rw [e]
        rfl
      rw [Lib.decDigits, dif_neg hu]
      generalize UInt8.ofNat (48 + u % 10) = c at h1 h2 h3 hh ⊢
      refine ⟨by rw [List.all_append, i1]; simp [h1], by rw [val_append, i2, h2]; omega, fun _ => ?_, by simp, fun _ => ?_⟩
      · rw [hh]; exact i6
      · rw [hh]; exact i6
theorem tk_dec (m : Nat) (r : List UInt8) (hm : m ≤ 1125899906842624) (hr : Sepd r) : tk (Lib.decDigits m ++ r) = (2, [], (m : Int), (Lib.decDigits m).length, 0) ∧ blank (Lib.decDigits m ++ r) false = 0 := by
  obtain ⟨h1, h2, h3, h4, _⟩ := dec_facts 17 m (by omega)
  have hds : (Lib.decDigits m ++ r).takeWhile dig = Lib.decDigits m := tw_app dig _ r h1 hr.dig
  have hnum : numTk (Lib.decDigits m ++ r) = (2, [], (m : Int), (Lib.decDigits m).length, 0) := by
    unfold numTk
    simp only
    rw [hds, List.drop_left, hr.nam, if_pos rfl]
    unfold numFin
    rw [if_neg (fun h => h3 h.1 h.2), h2, Nat.div_one, if_neg (by omega)]
    simp
  obtain ⟨c, t, e⟩ := List.exists_cons_of_ne_nil h4
  rw [e] at hnum h1 ⊢
  have hd : dig c = true := by simp at h1; exact h1.1
  obtain ⟨_, n1, n2, n3⟩ := nam_facts c (dig_nam c hd)
  constructor
  · rw [← hnum, List.cons_append, tk, if_pos hd]
  · rw [List.cons_append, blank, if_neg (by rintro (h | h); exact n1 h; exact n2 h), if_neg n3]
theorem tk_word (k : Int) (t : List UInt8) (n : Int) (r : List UInt8) (hw : wd k t n ≠ []) (hr : Sepd r) : tk (wd k t n ++ r) = (k, t, n, (wd k t n).length, 0) ∧ blank (wd k t n ++ r) false = 0 := by
  by_cases h2 : k = 2
  · have e : wd k t n = if t = [] ∧ 0 ≤ n ∧ n ≤ 1125899906842624 then Lib.decDigits n.toNat else [] := if_pos h2
    have hc : t = [] ∧ 0 ≤ n ∧ n ≤ 1125899906842624 := Classical.byContradiction fun hc => hw (e.trans (if_neg hc))
    obtain ⟨ht, h0, hm⟩ := hc
    rw [e.trans (if_pos ⟨ht, h0, hm⟩)]
    have := tk_dec n.toNat r (by omega) hr
    rw [this.1, h2, ht, show ((n.toNat : Nat) : Int) = n from by omega]
    exact ⟨rfl, this.2⟩
  by_cases h3 : k = 3
  · have e : wd k t n = if n = 0 then quo t else [] := (if_neg h2).trans (if_pos h3)
    have h0 : n = 0 := Classical.byContradiction fun hc => hw (e.trans (if_neg hc))
    have e2 := e.trans (if_pos h0)
    have hp : t.all pln = true := Classical.byContradiction fun hc => hw (e2.trans (if_neg hc))
    have e3 : wd k t n = 34 :: t ++ [34] := e2.trans (if_pos hp)
    rw [e3]
    have e4 : 34 :: t ++ [34] ++ r = 34 :: (t ++ 34 :: r) := by simp
    rw [e4]
    have htw : (t ++ 34 :: r).takeWhile pln = t := tw_app pln t _ hp (by rw [List.takeWhile_cons]; rfl)
    constructor
    · rw [tk, if_neg (by decide), if_pos rfl]
      unfold txtTk
      simp only
      rw [htw, List.getElem?_append_right (Nat.le_refl _), Nat.sub_self, show (34 :: r)[0]? = some 34 from rfl, if_pos rfl, h3, h0]
      simp
    · rw [blank, if_neg (by decide), if_neg (by decide)]
  by_cases h1 : k = 1
  · have e : wd k t n = if n = 0 ∧ isName t = true then t else [] := (if_neg h2).trans ((if_neg h3).trans (if_pos h1))
    have hc : n = 0 ∧ isName t = true := Classical.byContradiction fun hc => hw (e.trans (if_neg hc))
    obtain ⟨h0, hn⟩ := hc
    rw [e.trans (if_pos ⟨h0, hn⟩)]
    cases t with
    | nil => simp [isName] at hn
    | cons c t =>
      simp only [isName, Bool.and_eq_true, bne_iff_ne, ne_eq, Bool.not_eq_true'] at hn
      obtain ⟨⟨hd, h45⟩, ha⟩ := hn
      have htw := tw_app nam (c :: t) r ha hr.nam
      rw [List.cons_append] at htw ⊢
      have hnc : nam c = true := by simp at ha; exact ha.1
      obtain ⟨n0, n1, n2, n3⟩ := nam_facts c hnc
      constructor
      · rw [tk, if_neg (by rw [hd]; simp), if_neg n0, if_pos (by simp [hnc, h45]), htw, h1, h0]
      · rw [blank, if_neg (by rintro (h | h); exact n1 h; exact n2 h), if_neg n3]
  by_cases h4 : k = 4
  · have e : wd k t n = if n = 0 ∧ symT t = true then t else [] := (if_neg h2).trans ((if_neg h3).trans ((if_neg h1).trans (if_pos h4)))
    have hc : n = 0 ∧ symT t = true := Classical.byContradiction fun hc => hw (e.trans (if_neg hc))
    obtain ⟨h0, hy⟩ := hc
    rw [e.trans (if_pos ⟨h0, hy⟩), h4, h0]
    unfold symT at hy
    rw [Bool.or_eq_true, beq_iff_eq] at hy
    by_cases hge : t = [62, 61]
    · subst hge
      constructor
      · show tk (62 :: (61 :: r)) = _
        rw [tk, if_neg (by decide), if_neg (by decide), if_neg (by decide), if_pos ⟨rfl, rfl⟩]
        rfl
      · show blank (62 :: (61 :: r)) false = _
        rw [blank, if_neg (by decide), if_neg (by decide)]
    · have hy := hy.resolve_left hge
      match t with
      | [] => simp at hy
      | [c] =>
        obtain ⟨f1, f2, f3, f4, f5, f6, f7⟩ := sym_facts c hy
        constructor
        · show tk (c :: r) = _
          rw [tk, if_neg (by rw [f1]; simp), if_neg f2, if_neg (by rw [f3]; simp), if_neg (fun h => f4 h.1), if_pos hy]
          rfl
        · show blank (c :: r) false = _
          rw [blank, if_neg (by rintro (h | h); exact f5 h; exact f6 h), if_neg f7]
      | _ :: _ :: _ => simp at hy
  exact absurd ((if_neg h2).trans ((if_neg h3).trans ((if_neg h1).trans (if_neg h4)))) hw
def Gap (g : List UInt8) : Prop := (∀ r, blank (g ++ r) false = g.length + blank r false) ∧ Sepd g
def wx (x : S36) : List UInt8 := wd x.f0 (bs x.f1) x.f2
def body : List (S36 × List UInt8) → List UInt8
  | [] => []
  | (x, g) :: r => wx x ++ (g ++ body r)
def GoodB : List (S36 × List UInt8) → Prop
  | [] => True
  | (x, g) :: r => wx x ≠ [] ∧ Gap g ∧ (r ≠ [] → g ≠ []) ∧ GoodB r
def toks : Nat → List (S36 × List UInt8) → List Tok
  | _, [] => []
  | p, (x, g) :: r => ⟨x.f0, bs x.f1, x.f2, p⟩ :: toks (p + (wx x).length + g.length) r
theorem sepd_body (g : List UInt8) (r : List (S36 × List UInt8)) (hg : Gap g) (hn : r ≠ [] → g ≠ []) : Sepd (g ++ body r) := by
  rcases hg.2 with rfl | ⟨c, g', rfl, hc⟩
  · have : r = [] := Classical.byContradiction fun h => hn h rfl
    subst this
    exact .inl rfl
  · exact .inr ⟨c, g' ++ body r, rfl, hc⟩
theorem blank_body (items : List (S36 × List UInt8)) (h : GoodB items) : blank (body items) false = 0 := by
  cases items with
  | nil => rfl
  | cons a r =>
    obtain ⟨x, g⟩ := a
    obtain ⟨hw, hg, hn, _⟩ := h
    exact (tk_word x.f0 (bs x.f1) x.f2 _ hw (sepd_body g r hg hn)).2
theorem lexGo_body : ∀ (items : List (S36 × List UInt8)) (f p : Nat), GoodB items → (body items).length < f → lexGo f p (body items) = (toks p items, 0, 0)
  | [], 0, p, _, h => by simp [body] at h
  | [], f + 1, p, _, _ => rfl
  | (x, g) :: r, 0, p, _, h => by omega
  | (x, g) :: r, f + 1, p, hG, hf => by
    obtain ⟨hw, hg, hn, hr⟩ := hG
    obtain ⟨htk, _⟩ := tk_word x.f0 (bs x.f1) x.f2 _ hw (sepd_body g r hg hn)
    have hb : blank (g ++ body r) false = g.length := by rw [hg.1, blank_body r hr]; rfl
    have hwl : 1 ≤ (wx x).length := by
      cases hh : wx x with
      | nil => exact absurd hh hw
      | cons _ _ => simp
    have hlen : (body ((x, g) :: r)).length = (wx x).length + (g.length + (body r).length) := by simp [body]
    have ih := lexGo_body r f (p + (wx x).length + g.length) hr (by omega)
    have htk' : tk (body ((x, g) :: r)) = (x.f0, bs x.f1, x.f2, (wx x).length, 0) := htk
    have hdrop : (body ((x, g) :: r)).drop (wx x).length = g ++ body r := by simp [body]
    have hne : body ((x, g) :: r) ≠ [] := by
      intro h
      rw [h] at hlen
      simp at hlen
      omega
    rw [lexGo, if_neg hne]
    simp only
    rw [htk']
    simp only
    rw [hdrop, hb, List.drop_left, ih]
    rfl
end Go.Proofs.YtifhmdlgjojodaaDoor.Lex
end
section
namespace Go.Proofs.YtifhmdlgjojodaaDoor.Q
open Go.RowKit Go.Proofs.YtifhmdlgjojodaaDoorW.PrintWords Go.Proofs.YtifhmdlgjojodaaDoorW.PrintLast Go.Proofs.YtifhmdlgjojodaaDoorW.PrintMore
attribute [local go_sem] max2_int min2_int max_two min_two max_three min_three max_four min_four
attribute [local go_sem ↓] isSome_setCell
set_option linter.unusedVariables false
set_option linter.unusedSimpArgs false
end Go.Proofs.YtifhmdlgjojodaaDoor.Q
end
section
namespace Go.Proofs.YtifhmdlgjojodaaDoor.Lex
open Go.RowKit Go.Proofs.YtifhmdlgjojodaaDoor.Q Go.Proofs.YtifhmdlgjojodaaDoorW.PrintWords Go.Proofs.YtifhmdlgjojodaaDoorW.PrintMore Go.Proofs.YtifhmdlgjojodaaDoorW.EvMore
theorem rd_get (l : List S36) (i : Nat) (h : i < l.length) : rd_T36 l (i : Int) = l[i]'h := by
  unfold rd_T36
  rw [Int.toNat_natCast, List.getD_eq_getElem?_getD, List.getElem?_eq_getElem h]
  rfl
theorem small_loop (l : List S36) (hl : l.length ≤ 4611686018427387904) (hsz : ∀ x ∈ l, x.f1.size ≤ 4611686018427387800) (d : Nat) : ∀ (i n : Nat), i ≤ l.length → l.length - i = d → n ≤ 32768 → (∀ x ∈ l.take i, x.f1.size ≤ 32768) →
    ∃ b, Ev (fun k => tapearchivelaw28_small.l0 k l n i) b ∧ (b = true → ∀ x ∈ l, x.f1.size ≤ 32768) := by
  induction d with
  | zero =>
    intro i n h1 h2 h3 h4
    have q1 : ¬ (i : Int) < (l.length : Int) := by omega
    refine ⟨true, Ev.next (fun k => by rw [tapearchivelaw28_small.l0]) (Ev.neg q1 (Ev.done fun _ => rfl)), fun _ => ?_⟩
    rw [List.take_of_length_le (by omega)] at h4
    exact h4
  | succ d ih =>
    intro i n h1 h2 h3 h4
    have hlt : i < l.length := by omega
    have q1 : (i : Int) < (l.length : Int) := by omega
    have q2 : 0 ≤ (i : Int) := by omega
    have hf := hsz (l[i]'hlt) (List.getElem_mem hlt)
    have hts : l.take (i + 1) = l.take i ++ [l[i]'hlt] := List.take_succ_eq_append_getElem hlt
    by_cases hb : n + (l[i]'hlt).f1.size > 32768
    · refine ⟨false, ?_, fun h => by cases h⟩
      refine Ev.next (fun k => by rw [tapearchivelaw28_small.l0]) ?_
      rw [rd_get l i hlt]
      generalize l[i]'hlt = x at *
      have e : wrap64 ((n : Int) + (x.f1.size : Int)) = ((n + x.f1.size : Nat) : Int) := by rw [wrap_in (by omega) (by omega)]; omega
      rw [e]
      exact Ev.pos q1 (Ev.pos q2 (Ev.pos (by omega) (Ev.done fun _ => rfl)))
    · obtain ⟨b, hev, himp⟩ := ih (i + 1) (n + (l[i]'hlt).f1.size) (by omega) (by omega) (by omega) (by
        rw [hts]
        intro x hx
        rcases List.mem_append.1 hx with hx | hx
        · exact h4 x hx
        · rw [List.mem_singleton.1 hx]; omega)
      refine ⟨b, ?_, himp⟩
      refine Ev.next (fun k => by rw [tapearchivelaw28_small.l0]) ?_
      rw [rd_get l i hlt]
      generalize l[i]'hlt = x at *
      have e : wrap64 ((n : Int) + (x.f1.size : Int)) = ((n + x.f1.size : Nat) : Int) := by rw [wrap_in (by omega) (by omega)]; omega
      rw [e]
      clear e
      have e2 : wrap64 ((i : Int) + 1) = ((i + 1 : Nat) : Int) := by rw [wrap_in (by omega) (by omega)]; omega
      rw [e2]
      exact Ev.pos q1 (Ev.pos q2 (Ev.neg (by omega) hev))
theorem small_ev (l : List S36) (hsz : ∀ x ∈ l, x.f1.size ≤ 4611686018427387800) : ∃ b, Ev (fun k => tapearchivelaw28_small.f k l) b ∧ (b = true → l.length ≤ 400 ∧ ∀ x ∈ l, x.f1.size ≤ 32768) := by
  unfold tapearchivelaw28_small.f
  by_cases h : (l.length : Int) > 400
  · exact ⟨false, Ev.pos h (Ev.done fun _ => rfl), fun h => by cases h⟩
  · obtain ⟨b, hev, himp⟩ := small_loop l (by omega) hsz _ 0 0 (Nat.zero_le _) rfl (by omega) (by simp)
    exact ⟨b, Ev.neg h hev, fun hb => ⟨by omega, himp hb⟩⟩
theorem tokens_ok (s : ByteArray) (hs : s.size ≤ 4611686018427387904) (ts : List Tok) (h : lex (bs s) = (ts, 0, 0)) : ∃ xs, Ev (fun k => lexer_Tokens.f k s) (xs, 0, 0) ∧ Rels xs ts := by
  obtain ⟨o, ho, xs, hx, e⟩ := tokens_ev s hs
  rw [h] at e hx
  refine ⟨xs, ?_, hx⟩
  simp only [if_true, List.nil_append] at e
  rw [← e]
  exact ho
theorem toks_length : ∀ (items : List (S36 × List UInt8)) (p : Nat), (toks p items).length = items.length
  | [], _ => rfl
  | (x, g) :: r, p => by simp [toks, toks_length r]
theorem toks_same : ∀ (items : List (S36 × List UInt8)) (p : Nat) (xs : List S36), Rels xs (toks p items) → ∀ i (h : i < items.length), Sm false (items[i]'h).1 (xs.getD i z36)
  | [], _, _, _, i, h => absurd h (Nat.not_lt_zero i)
  | (x, g) :: r, p, xs, hx, i, h => by
    cases hx with
    | cons h1 h2 =>
      cases i with
      | zero =>
        obtain ⟨g0, g1, g2, _⟩ := h1
        exact ⟨g0.symm, (bs_inj g1).symm, g2.symm, fun h => by cases h⟩
      | succ i =>
        have := toks_same r _ _ h2 i (by simpa using h)
        simpa using this
end Go.Proofs.YtifhmdlgjojodaaDoor.Lex
end
section
namespace Go.Proofs.YtifhmdlgjojodaaDoor.Lex
open Go.RowKit Go.Proofs.YtifhmdlgjojodaaDoor.Q Go.Proofs.YtifhmdlgjojodaaDoorW.PrintWords Go.Proofs.YtifhmdlgjojodaaDoorW.PrintMore Go.Proofs.YtifhmdlgjojodaaDoorW.EvMore
def gp (a : Int) : List UInt8 := if Int.tmod a 5 = 0 then [32] else if Int.tmod a 5 = 1 then [10] else if Int.tmod a 5 = 2 then [35, 32, 97, 32, 99, 111, 109, 109, 101, 110, 116, 59, 32, 34, 10] else if Int.tmod a 5 = 3 then [32, 32, 10, 10, 32] else [32, 35, 10, 35, 120, 10, 32]
theorem gap_f (a : Int) : tapearchivelaw28_gap.f a = some ⟨(gp a).toArray⟩ := by
  unfold tapearchivelaw28_gap.f gp
  repeat' split
  all_goals rfl
theorem gp_gap (a : Int) : Gap (gp a) ∧ gp a ≠ [] ∧ (gp a).length ≤ 15 := by
  unfold gp
  repeat' split
  · exact ⟨⟨fun r => by simp [blank] <;> omega, .inr ⟨32, _, rfl, .inl rfl⟩⟩, by simp, by decide⟩
  · exact ⟨⟨fun r => by simp [blank] <;> omega, .inr ⟨10, _, rfl, .inr (.inl rfl)⟩⟩, by simp, by decide⟩
  · exact ⟨⟨fun r => by simp [blank] <;> omega, .inr ⟨35, _, rfl, .inr (.inr rfl)⟩⟩, by simp, by decide⟩
  · exact ⟨⟨fun r => by simp [blank] <;> omega, .inr ⟨32, _, rfl, .inl rfl⟩⟩, by simp, by decide⟩
  · exact ⟨⟨fun r => by simp [blank] <;> omega, .inr ⟨32, _, rfl, .inl rfl⟩⟩, by simp, by decide⟩
def mk (G : Nat → List UInt8) : Nat → List S36 → List (S36 × List UInt8)
  | _, [] => []
  | j, x :: r => (x, G j) :: mk G (j + 1) r
theorem mk_length (G : Nat → List UInt8) : ∀ (l : List S36) (j : Nat), (mk G j l).length = l.length
  | [], _ => rfl
  | x :: r, j => by simp [mk, mk_length G r]
theorem mk_get (G : Nat → List UInt8) : ∀ (l : List S36) (j i : Nat) (h : i < (mk G j l).length) (h' : i < l.length), ((mk G j l)[i]'h).1 = l[i]'h'
  | [], _, i, _, h' => absurd h' (Nat.not_lt_zero i)
  | x :: r, _, 0, _, _ => rfl
  | x :: r, j, i + 1, h, h' => by
    have := mk_get G r (j + 1) i (by simpa [mk] using h) (by simpa using h')
    simpa [mk] using this
theorem mk_good (G : Nat → List UInt8) (hG : ∀ j, Gap (G j) ∧ G j ≠ []) : ∀ (l : List S36) (j : Nat), (∀ x ∈ l, wx x ≠ []) → GoodB (mk G j l)
  | [], _, _ => trivial
  | x :: r, j, h => ⟨h x (by simp), (hG j).1, fun _ => (hG j).2, mk_good G hG r (j + 1) (fun y hy => h y (by simp [hy]))⟩
theorem body_snoc (G : Nat → List UInt8) : ∀ (l : List S36) (j : Nat) (x : S36), body (mk G j (l ++ [x])) = body (mk G j l) ++ (wx x ++ G (j + l.length))
  | [], j, x => by simp [mk, body]
  | y :: r, j, x => by
    have := body_snoc G r (j + 1) x
    simp only [List.cons_append, mk, body, this, List.length_cons, List.append_assoc]
    rw [show j + 1 + r.length = j + (r.length + 1) from by omega]
theorem toks_snoc (G : Nat → List UInt8) : ∀ (l : List S36) (j p : Nat) (x : S36), toks p (mk G j (l ++ [x])) = toks p (mk G j l) ++ [⟨x.f0, bs x.f1, x.f2, p + (body (mk G j l)).length⟩]
  | [], j, p, x => by simp [mk, body, toks]
  | y :: r, j, p, x => by
    have := toks_snoc G r (j + 1) (p + (wx y).length + (G j).length) x
    simp only [List.cons_append, mk, toks, this, body, List.length_append]
    rw [show p + (wx y).length + (G j).length + (body (mk G (j + 1) r)).length = p + ((wx y).length + ((G j).length + (body (mk G (j + 1) r)).length)) from by omega]
def ats (ts : List Tok) : List Int := ts.map fun t => (t.at_ : Int)
theorem rels_at {xs ts} (h : Rels xs ts) : ∀ i, i < xs.length → (xs.getD i z36).f3 = (ats ts).getD i 0 := by
  induction h with
  | nil => intro i hi; simp at hi
  | cons h1 _ ih =>
    intro i hi
    cases i with
    | zero => exact h1.2.2.2
    | succ i =>
      have := ih i (by simpa using hi)
      simpa [ats] using this
theorem at_same (xs : List S36) (zs : List Int) (hn : xs.length ≤ 4611686018427387904) (hl : xs.length = zs.length) (h : ∀ i, i < xs.length → (xs.getD i z36).f3 = zs.getD i 0) (d : Nat) : ∀ i, i ≤ xs.length → xs.length - i = d → Ev (fun k => tapearchivelaw28_LexerSeparators.l1 k zs xs i) true := by
  induction d with
  | zero =>
    intro i h1 h2
    have q : ¬ (i : Int) < (xs.length : Int) := by omega
    refine Ev.next (fun k => by rw [tapearchivelaw28_LexerSeparators.l1]) ?_
    exact Ev.neg q (Ev.done fun _ => rfl)
  | succ d ih =>
    intro i h1 h2
    have q1 : (i : Int) < (xs.length : Int) := by omega
    have q2 : 0 ≤ (i : Int) := by omega
    have q3 : (i : Int) < (zs.length : Int) := by omega
    have hw : wrap64 ((i : Int) + 1) = ((i + 1 : Nat) : Int) := by rw [wrap_in (by omega) (by omega)]; omega
    have ihn := ih (i + 1) (by omega) (by omega)
    refine Ev.next (fun k => by rw [tapearchivelaw28_LexerSeparators.l1]) ?_
    rw [hw]
    refine Ev.pos q1 (Ev.pos q2 (Ev.pos q3 (Ev.pos ?_ ihn)))
    unfold rd_T36 rd
    rw [Int.toNat_natCast]
    exact h i (by omega)
theorem txt_one (x : S36) (h : txt (wds [x]) ≠ []) : txt (wds [x]) = wx x ∧ wx x ≠ [] := by
  have hc : ¬ (([] : List UInt8) ∈ wds [x] ∨ 16385 < tot (wds [x])) := fun hh => h (if_pos hh)
  refine ⟨(if_neg hc).trans (by simp [wds, Lib.join_one, wx]), fun e => hc (.inl ?_)⟩
  have e' : wd x.f0 (bs x.f1) x.f2 = [] := e
  simp [wds, e']
theorem sep_loop (l : List S36) (gs : List Int) (G : Nat → List UInt8) (g0 : List UInt8) (hl : l.length ≤ 200) (hg1 : 0 < gs.length) (hg2 : gs.length ≤ 100) (hsz : ∀ x ∈ l, x.f1.size ≤ 32768) (hG : ∀ j, G j = gp (rd gs (((j + 1) % gs.length : Nat) : Int))) (h0 : Gap g0) (d : Nat) :
    ∀ (i : Nat) (s : ByteArray) (zs : List Int), i ≤ l.length → l.length - i = d → bs s = g0 ++ body (mk G 0 (l.take i)) → zs = ats (toks g0.length (mk G 0 (l.take i))) → (∀ x ∈ l.take i, wx x ≠ []) →
    Ev (fun k => tapearchivelaw28_LexerSeparators.l0 k l gs s zs i) true := by
  have hGood : ∀ j, Gap (G j) ∧ G j ≠ [] := fun j => by rw [hG]; have := gp_gap (rd gs (((j + 1) % gs.length : Nat) : Int)); exact ⟨this.1, this.2.1⟩
  induction d with
  | zero =>
    intro i s zs h1 h2 h3 h4 h5
    have q1 : ¬ (i : Int) < (l.length : Int) := by omega
    rw [List.take_of_length_le (by omega)] at h3 h4 h5
    refine Ev.next (fun k => by rw [tapearchivelaw28_LexerSeparators.l0]) ?_
    refine Ev.neg q1 ?_
    by_cases hb : (s.size : Int) > 16384
    · exact Ev.pos hb (Ev.done fun _ => rfl)
    refine Ev.neg hb ?_
    have hgood := mk_good G hGood l 0 h5
    have hss := bs_size h3
    rw [List.length_append] at hss
    have hlex : lex (bs s) = (toks g0.length (mk G 0 l), 0, 0) := by
      unfold lex
      rw [if_neg (by rw [bs_length]; omega), h3, h0.1, blank_body _ hgood, show g0.length + 0 = g0.length from rfl, List.drop_left]
      exact lexGo_body _ _ _ hgood (by rw [List.length_append]; omega)
    obtain ⟨xs, hxs, hrel⟩ := tokens_ok s (by omega) _ hlex
    have hxl : xs.length = l.length := by rw [hrel.length, toks_length, mk_length]
    have hsame := same_ev false l xs hxl.symm (by omega) (fun i hi => by
      have := toks_same (mk G 0 l) _ xs hrel i (by rw [mk_length]; exact hi)
      rw [mk_get G l 0 i _ hi] at this
      rw [List.getD_eq_getElem?_getD (l := l), List.getElem?_eq_getElem hi]
      exact this)
    refine Ev.both hxs (Ev.pos rfl (Ev.both hsame ?_))
    refine Ev.next (fun k => by rw [tapearchivelaw28_LexerSeparators.j2]) ?_
    refine Ev.neg (by simp) (at_same xs zs (by omega) ?_ ?_ _ 0 (Nat.zero_le _) rfl)
    · rw [h4, hrel.length]; simp [ats]
    · intro i hi; rw [h4]; exact rels_at hrel i hi
  | succ d ih =>
    intro i s zs h1 h2 h3 h4 h5
    have hlt : i < l.length := by omega
    have q1 : (i : Int) < (l.length : Int) := by omega
    have q2 : 0 ≤ (i : Int) := by omega
    refine Ev.next (fun k => by rw [tapearchivelaw28_LexerSeparators.l0]) ?_
    refine Ev.pos q1 ?_
    by_cases hb : (s.size : Int) > 8192
    · exact Ev.pos hb (Ev.done fun _ => rfl)
    refine Ev.neg hb ?_
    have hw : wrap64 ((i : Int) + 1) = ((i + 1 : Nat) : Int) := by rw [wrap_in (by omega) (by omega)]; omega
    rw [hw]
    clear hw
    have q3 : (i : Int) ≤ ((i + 1 : Nat) : Int) := by omega
    have q4 : ((i + 1 : Nat) : Int) ≤ (l.length : Int) := by omega
    have hts : l.take (i + 1) = l.take i ++ [l[i]'hlt] := List.take_succ_eq_append_getElem hlt
    have hsl : (l.take ((i + 1 : Nat) : Int).toNat).drop (i : Int).toNat = [l[i]'hlt] := by
      rw [Int.toNat_natCast, Int.toNat_natCast, hts, List.drop_append_of_le_length (by rw [List.length_take]; omega), List.drop_of_length_le (by rw [List.length_take]; omega), List.nil_append]
    rw [hsl]
    have hf := hsz (l[i]'hlt) (List.getElem_mem hlt)
    have ht := text_ev [l[i]'hlt] (by simp) (fun x hx => by rw [List.mem_singleton.1 hx]; omega)
    have hwl := wd_len (l[i]'hlt).f0 (bs (l[i]'hlt).f1) (l[i]'hlt).f2
    rw [bs_length] at hwl
    refine Ev.pos q2 (Ev.pos q3 (Ev.pos q4 (Ev.both ht ?_)))
    by_cases hn : txt (wds [l[i]'hlt]) = []
    · exact Ev.pos (by rw [toList_bs, bs_mk]; exact hn) (Ev.done fun _ => rfl)
    refine Ev.neg (by rw [toList_bs, bs_mk]; exact hn) ?_
    obtain ⟨e1, e2⟩ := txt_one _ hn
    rw [e1]
    have hzl : zs.length = i := by rw [h4]; simp [ats, toks_length, mk_length]; omega
    have hss := bs_size h3
    have hbl := hss
    rw [List.length_append] at hbl
    have et : Int.tmod ((i + 1 : Nat) : Int) (gs.length : Int) = (((i + 1) % gs.length : Nat) : Int) := rfl
    have hmod : (i + 1) % gs.length < gs.length := Nat.mod_lt _ hg1
    rw [et]
    have hgl := (gp_gap (rd gs (((i + 1) % gs.length : Nat) : Int))).2.2
    have hgi := hG i
    have hb1 := body_snoc G (l.take i) 0 (l[i]'hlt)
    have hb2 := toks_snoc G (l.take i) 0 g0.length (l[i]'hlt)
    rw [Nat.zero_add, List.length_take, Nat.min_eq_left (by omega)] at hb1
    have hwl2 : (wx (l[i]'hlt)).length ≤ 40000 := by
      show (wd (l[i]'hlt).f0 (bs (l[i]'hlt).f1) (l[i]'hlt).f2).length ≤ _
      omega
    have ihn := ih (i + 1) ((s ++ ⟨(wx (l[i]'hlt)).toArray⟩) ++ ⟨(gp (rd gs (((i + 1) % gs.length : Nat) : Int))).toArray⟩) (zs ++ [(s.size : Int)]) (by omega) (by omega)
      (by rw [bs_append, bs_append, h3, hts, hb1, hgi]; simp [bs_mk])
      (by rw [hts, hb2, h4, hbl]; simp [ats])
      (by
        rw [hts]
        intro x hx
        rcases List.mem_append.1 hx with hx | hx
        · exact h5 x hx
        · rw [List.mem_singleton.1 hx]; exact e2)
    have a1 : (⟨(wx (l[i]'hlt)).toArray⟩ : ByteArray).size = (wx (l[i]'hlt)).length := rfl
    have a2 : (⟨(gp (rd gs (((i + 1) % gs.length : Nat) : Int))).toArray⟩ : ByteArray).size = (gp (rd gs (((i + 1) % gs.length : Nat) : Int))).length := rfl
    have b1 : zs.length < 17592186044416 := by omega
    have b2 : s.size + (⟨(wx (l[i]'hlt)).toArray⟩ : ByteArray).size ≤ 9223372036854775807 := by rw [a1]; omega
    have b3 : ¬ (gs.length : Int) = 0 := by omega
    have b4 : 0 ≤ (((i + 1) % gs.length : Nat) : Int) := by omega
    have b5 : (((i + 1) % gs.length : Nat) : Int) < (gs.length : Int) := Int.ofNat_lt.2 hmod
    have b6 : s.size + (⟨(wx (l[i]'hlt)).toArray⟩ : ByteArray).size + (⟨(gp (rd gs (((i + 1) % gs.length : Nat) : Int))).toArray⟩ : ByteArray).size ≤ 9223372036854775807 := by rw [a1, a2]; omega
    exact Ev.pos b1 (Ev.pos b2 (Ev.neg b3 (Ev.pos b4 (Ev.pos b5 (Ev.bindS (gap_f _) (Ev.pos b6 ihn))))))
theorem separators_law : SLexerSeparators.Pure := by
  intro l gs hl hgs
  suffices h : Ev (fun k => tapearchivelaw28_LexerSeparators.f k l gs) true from Ev.get h
  obtain ⟨hl1, hl2, hl3⟩ := hl
  have hsz : ∀ x ∈ l, x.f1.size ≤ 4611686018427387800 := fun x hx => by have := (hl3 x hx).2.1; omega
  have jt : Ev (fun k => tapearchivelaw28_LexerSeparators.j0 k l gs true) true := by
    refine Ev.next (fun k => by rw [tapearchivelaw28_LexerSeparators.j0]) ?_
    exact Ev.pos rfl (Ev.done fun _ => rfl)
  obtain ⟨b, hb, himp⟩ := small_ev l hsz
  unfold tapearchivelaw28_LexerSeparators.f
  refine Ev.both lives_ev (Ev.pos rfl (Ev.both hb ?_))
  cases b with
  | false => exact Ev.neg (by simp) jt
  | true =>
    obtain ⟨h1, h2⟩ := himp rfl
    refine Ev.pos rfl ?_
    by_cases hz : (gs.length : Int) = 0
    · exact Ev.pos hz jt
    refine Ev.neg hz ?_
    by_cases hbig : (gs.length : Int) > 100
    · exact Ev.pos hbig jt
    refine Ev.neg hbig ?_
    by_cases h200 : (l.length : Int) > 200
    · rw [decide_eq_true h200]; exact jt
    · rw [decide_eq_false h200]
      refine Ev.next (fun k => by rw [tapearchivelaw28_LexerSeparators.j0]) ?_
      refine Ev.neg (by simp) (Ev.pos (by omega) (Ev.bindS (gap_f _) ?_))
      exact sep_loop l gs (fun j => gp (rd gs (((j + 1) % gs.length : Nat) : Int))) (gp (rd gs 0)) (by omega) (by omega) (by omega) h2 (fun _ => rfl) (gp_gap _).1 _ 0 _ [] (Nat.zero_le _) rfl (by simp [mk, body, bs_mk]) (by simp [mk, toks, ats]) (by simp)
end Go.Proofs.YtifhmdlgjojodaaDoor.Lex
namespace Go.Proofs.YtifhmdlgjojodaaDoor.Pure
theorem LexerSeparators : Go.Proofs.YtifhmdlgjojodaaDoor.SLexerSeparators.Pure := Lex.separators_law
end Go.Proofs.YtifhmdlgjojodaaDoor.Pure
end
