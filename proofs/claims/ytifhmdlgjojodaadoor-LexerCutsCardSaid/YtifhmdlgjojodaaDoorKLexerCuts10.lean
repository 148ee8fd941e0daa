import Derived.Test.YtifhmdlgjojodaaDoorKLexerCuts9
set_option linter.unusedVariables false
set_option linter.unusedSimpArgs false
namespace Go.Proofs.YtifhmdlgjojodaaDoor.Lex
open Go.RowKit Go.Proofs.YtifhmdlgjojodaaDoor.Q Go.Proofs.YtifhmdlgjojodaaDoorW.PrintWords Go.Proofs.YtifhmdlgjojodaaDoorW.PrintMore Go.Proofs.YtifhmdlgjojodaaDoorW.EvMore
theorem tw_take (p : UInt8 → Bool) : ∀ (l : List UInt8) (m : Nat), (l.take m).takeWhile p = (l.takeWhile p).take m
  | [], m => by simp
  | c :: r, 0 => by simp
  | c :: r, m + 1 => by
    rw [List.take_succ_cons, List.takeWhile_cons, List.takeWhile_cons]
    cases p c with
    | true => simp [tw_take p r m]
    | false => simp
theorem tw_take_of (p : UInt8 → Bool) (l : List UInt8) (m : Nat) (h : (l.takeWhile p).length ≤ m) : (l.take m).takeWhile p = l.takeWhile p := by
  rw [tw_take, List.take_of_length_le h]
theorem num_take (l : List UInt8) (m : Nat) (h : (numTk l).2.2.2.2 = 0) (hm : (numTk l).2.2.2.1 ≤ m) : numTk (l.take m) = numTk l := by
  have key : (numTk l).2.2.2.1 = (l.takeWhile dig).length + ((l.drop (l.takeWhile dig).length).takeWhile nam).length := by
    have fin : ∀ ds rs f, (numFin ds rs f).2.2.2.2 = 0 → (numFin ds rs f).2.2.2.1 = ds.length + rs.length := by
      intro ds rs f hf
      unfold numFin at hf ⊢
      split
      · rename_i h0; rw [if_pos h0] at hf; simp [bad] at hf
      · rename_i h0
        rw [if_neg h0] at hf
        split
        · rename_i h1; rw [if_pos h1] at hf; simp [bad] at hf
        · rfl
    unfold numTk at h ⊢
    simp only at h ⊢
    split
    · rename_i h0; rw [if_pos h0] at h; exact fin _ _ _ h
    · rename_i h0
      rw [if_neg h0] at h
      split
      · rename_i h1; rw [if_pos h1] at h; exact fin _ _ _ h
      · rename_i h1; rw [if_neg h1] at h; simp [bad] at h
  rw [key] at hm
  have e1 : (l.take m).takeWhile dig = l.takeWhile dig := tw_take_of dig l m (by omega)
  have e2 : ((l.take m).drop (l.takeWhile dig).length).takeWhile nam = (l.drop (l.takeWhile dig).length).takeWhile nam := by
    rw [List.drop_take]
    exact tw_take_of nam _ _ (by omega)
  unfold numTk
  simp only
  rw [e1, e2]
theorem tk_take (l : List UInt8) (m : Nat) (h : (tk l).2.2.2.2 = 0) (hm : (tk l).2.2.2.1 ≤ m) : tk (l.take m) = tk l := by
  have h1 := (tk_len l h).1
  cases l with
  | nil => simp
  | cons c r =>
    obtain ⟨m, rfl⟩ : ∃ n, m = n + 1 := ⟨m - 1, by omega⟩
    rw [List.take_succ_cons]
    by_cases hd : dig c = true
    · have e : tk (c :: r) = numTk (c :: r) := by rw [tk, if_pos hd]
      have e2 : tk (c :: r.take m) = numTk ((c :: r).take (m + 1)) := by rw [tk, if_pos hd, List.take_succ_cons]
      rw [e] at h hm ⊢
      rw [e2]
      exact num_take _ _ h hm
    by_cases hq : c = 34
    · have e : tk (c :: r) = txtTk r := by rw [tk, if_neg hd, if_pos hq]
      have e2 : tk (c :: r.take m) = txtTk (r.take m) := by rw [tk, if_neg hd, if_pos hq]
      rw [e] at h hm ⊢
      rw [e2]
      unfold txtTk at h hm ⊢
      simp only at h hm ⊢
      by_cases hg : r[(r.takeWhile pln).length]? = some 34
      · rw [if_pos hg] at hm ⊢
        simp only at hm
        have e3 : (r.take m).takeWhile pln = r.takeWhile pln := tw_take_of pln r m (by omega)
        rw [e3, List.getElem?_take_of_lt (by omega), if_pos hg]
      · rw [if_neg hg] at h
        simp [bad] at h
    by_cases hn : (nam c && c != 45) = true
    · have e : tk (c :: r) = (1, (c :: r).takeWhile nam, 0, ((c :: r).takeWhile nam).length, 0) := by rw [tk, if_neg hd, if_neg hq, if_pos hn]
      have e2 : tk (c :: r.take m) = (1, (c :: r.take m).takeWhile nam, 0, ((c :: r.take m).takeWhile nam).length, 0) := by rw [tk, if_neg hd, if_neg hq, if_pos hn]
      rw [e] at hm ⊢
      have e3 : (c :: r.take m).takeWhile nam = (c :: r).takeWhile nam := by
        rw [← List.take_succ_cons]
        exact tw_take_of nam _ _ hm
      rw [e2, e3]
    by_cases hge : c = 62 ∧ r.head? = some 61
    · have e : tk (c :: r) = (4, [62, 61], 0, 2, 0) := by rw [tk, if_neg hd, if_neg hq, if_neg hn, if_pos hge]
      rw [e] at hm ⊢
      simp only at hm
      have : (r.take m).head? = some 61 := by
        rw [List.head?_take, if_neg (by omega)]
        exact hge.2
      rw [tk, if_neg hd, if_neg hq, if_neg hn, if_pos ⟨hge.1, this⟩]
    · by_cases hs : sym c = true
      · have := (sym_facts c hs).2.2.2.1
        rw [tk, if_neg hd, if_neg hq, if_neg hn, if_neg (fun h => this h.1), if_pos hs, tk, if_neg hd, if_neg hq, if_neg hn, if_neg hge, if_pos hs]
      · have e : tk (c :: r) = bad 1 := by rw [tk, if_neg hd, if_neg hq, if_neg hn, if_neg hge, if_neg hs]
        rw [e] at h
        simp [bad] at h
theorem blank_take : ∀ (l : List UInt8) (c : Bool) (m : Nat), blank l c ≤ m → blank (l.take m) c = blank l c
  | [], _, _, _ => by simp
  | x :: r, c, 0, h => by
    rw [List.take_zero]
    have : blank (x :: r) c = 0 := by omega
    rw [this]
    cases c <;> rfl
  | x :: r, false, m + 1, h => by
    rw [List.take_succ_cons]
    simp only [blank] at h ⊢
    split
    · rename_i h0; rw [if_pos h0] at h; rw [blank_take r false m (by omega)]
    · rename_i h0
      rw [if_neg h0] at h
      split
      · rename_i h1; rw [if_pos h1] at h; rw [blank_take r true m (by omega)]
      · rfl
  | x :: r, true, m + 1, h => by
    rw [List.take_succ_cons]
    simp only [blank] at h ⊢
    split
    · rename_i h0; rw [if_pos h0] at h; rw [blank_take r false m (by omega)]
    · rename_i h0; rw [if_neg h0] at h; rw [blank_take r true m (by omega)]
theorem blank_drop : ∀ (l : List UInt8) (c : Bool), blank (l.drop (blank l c)) false = 0
  | [], c => by cases c <;> rfl
  | x :: r, false => by
    by_cases h0 : x = 32 ∨ x = 10
    · rw [show blank (x :: r) false = blank r false + 1 from by rw [blank, if_pos h0, Nat.add_comm], List.drop_succ_cons]
      exact blank_drop r false
    · by_cases h1 : x = 35
      · rw [show blank (x :: r) false = blank r true + 1 from by rw [blank, if_neg h0, if_pos h1, Nat.add_comm], List.drop_succ_cons]
        exact blank_drop r true
      · have e : blank (x :: r) false = 0 := by rw [blank, if_neg h0, if_neg h1]
        rw [e, List.drop_zero]
        exact e
  | x :: r, true => by
    by_cases h0 : x = 10
    · rw [show blank (x :: r) true = blank r false + 1 from by rw [blank, if_pos h0, Nat.add_comm], List.drop_succ_cons]
      exact blank_drop r false
    · rw [show blank (x :: r) true = blank r true + 1 from by rw [blank, if_neg h0, Nat.add_comm], List.drop_succ_cons]
      exact blank_drop r true
theorem lexGo_fuel : ∀ (f f' p : Nat) (l : List UInt8), l.length < f → l.length < f' → lexGo f p l = lexGo f' p l
  | 0, _, _, _, h, _ => by omega
  | _, 0, _, _, _, h => by omega
  | f + 1, f' + 1, p, l, h, h' => by
    rw [lexGo, lexGo]
    by_cases hn : l = []
    · rw [if_pos hn, if_pos hn]
    · rw [if_neg hn, if_neg hn]
      simp only
      by_cases he : (tk l).2.2.2.2 ≠ 0
      · rw [if_pos he, if_pos he]
      · have htl := tk_len l (Classical.byContradiction fun h => he h)
        rw [if_neg he, if_neg he, lexGo_fuel f f' _ ((l.drop (tk l).2.2.2.1).drop (blank (l.drop (tk l).2.2.2.1) false)) (by rw [List.length_drop, List.length_drop]; omega) (by rw [List.length_drop, List.length_drop]; omega)]
theorem lexGo_take (f p : Nat) (l : List UInt8) (d : Nat) (he : (tk l).2.2.2.2 = 0) (ts : List Tok) (hd : (tk l).2.2.2.1 + blank (l.drop (tk l).2.2.2.1) false ≤ d)
    (h : lexGo f (p + (tk l).2.2.2.1 + blank (l.drop (tk l).2.2.2.1) false) (((l.drop (tk l).2.2.2.1).drop (blank (l.drop (tk l).2.2.2.1) false)).take (d - (tk l).2.2.2.1 - blank (l.drop (tk l).2.2.2.1) false)) = (ts, 0, 0)) :
    lexGo (f + 1) p (l.take d) = (⟨(tk l).1, (tk l).2.1, (tk l).2.2.1, p⟩ :: ts, 0, 0) := by
  have h1 := tk_len l he
  have hne : l.take d ≠ [] := by
    intro e
    have := congrArg List.length e
    rw [List.length_take, List.length_nil] at this
    omega
  rw [lexGo, if_neg hne]
  simp only
  rw [tk_take l d he (by omega), if_neg (fun h => h he)]
  rw [List.drop_take, blank_take _ _ _ (by omega), List.drop_take, h]
  simp
theorem cut_go : ∀ (f p : Nat) (l : List UInt8), l.length < f → blank l false = 0 →
    ((lexGo f p l).2.2 ≠ 0 → (lexGo f p l).1 = [] ∧ ∃ q : Nat, (lexGo f p l).2.1 = (q : Int) ∧ p ≤ q ∧ q < p + l.length ∧ (∃ ts, lexGo f p (l.take (q - p)) = (ts, 0, 0)) ∧ (tk (l.drop (q - p))).2.2.2.2 = (lexGo f p l).2.2 ∧ blank (l.drop (q - p)) false = 0) ∧
    ((lexGo f p l).2.2 = 0 → ∀ k t, (lexGo f p l).1[k]? = some t → p ≤ t.at_ ∧ t.at_ < p + l.length ∧ lexGo f p (l.take (t.at_ - p)) = ((lexGo f p l).1.take k, 0, 0))
  | 0, p, l, h, _ => by omega
  | f + 1, p, l, h, hb0 => by
    by_cases hl : l = []
    · subst hl
      have e : lexGo (f + 1) p [] = ([], 0, 0) := rfl
      rw [e]
      exact ⟨fun h => absurd rfl h, fun _ k t hk => by simp at hk⟩
    by_cases he : (tk l).2.2.2.2 = 0
    · have htl := tk_len l he
      have hbl := blank_le (l.drop (tk l).2.2.2.1) false
      rw [List.length_drop] at hbl
      have hll : ((l.drop (tk l).2.2.2.1).drop (blank (l.drop (tk l).2.2.2.1) false)).length = l.length - (tk l).2.2.2.1 - blank (l.drop (tk l).2.2.2.1) false := by rw [List.length_drop, List.length_drop]
      obtain ⟨i1, i2⟩ := cut_go f (p + (tk l).2.2.2.1 + blank (l.drop (tk l).2.2.2.1) false) ((l.drop (tk l).2.2.2.1).drop (blank (l.drop (tk l).2.2.2.1) false)) (by omega) (blank_drop _ _)
      have hstep := fun d ts h1 h2 => lexGo_take f p l d he ts h1 h2
      have hdd : ∀ d, (tk l).2.2.2.1 + blank (l.drop (tk l).2.2.2.1) false ≤ d → ((l.drop (tk l).2.2.2.1).drop (blank (l.drop (tk l).2.2.2.1) false)).drop (d - ((tk l).2.2.2.1 + blank (l.drop (tk l).2.2.2.1) false)) = l.drop d := by
        intro d hd
        rw [List.drop_drop, List.drop_drop]
        congr 1
        omega
      have hR : lexGo (f + 1) p l = if (lexGo f (p + (tk l).2.2.2.1 + blank (l.drop (tk l).2.2.2.1) false) ((l.drop (tk l).2.2.2.1).drop (blank (l.drop (tk l).2.2.2.1) false))).2.2 ≠ 0 then ([], (lexGo f (p + (tk l).2.2.2.1 + blank (l.drop (tk l).2.2.2.1) false) ((l.drop (tk l).2.2.2.1).drop (blank (l.drop (tk l).2.2.2.1) false))).2.1, (lexGo f (p + (tk l).2.2.2.1 + blank (l.drop (tk l).2.2.2.1) false) ((l.drop (tk l).2.2.2.1).drop (blank (l.drop (tk l).2.2.2.1) false))).2.2) else (⟨(tk l).1, (tk l).2.1, (tk l).2.2.1, p⟩ :: (lexGo f (p + (tk l).2.2.2.1 + blank (l.drop (tk l).2.2.2.1) false) ((l.drop (tk l).2.2.2.1).drop (blank (l.drop (tk l).2.2.2.1) false))).1, 0, 0) := by
        rw [lexGo, if_neg hl]
        simp only
        rw [if_neg (fun h => h he)]
      rw [hR]
      clear hR
      generalize blank (l.drop (tk l).2.2.2.1) false = b at *
      generalize (l.drop (tk l).2.2.2.1).drop b = l2 at *
      generalize (tk l).2.2.2.1 = n at *
      generalize lexGo f (p + n + b) l2 = r at *
      by_cases hr : r.2.2 ≠ 0
      · rw [if_pos hr]
        refine ⟨fun _ => ⟨rfl, ?_⟩, fun h => absurd h hr⟩
        obtain ⟨_, q, hq, q1, q2, ⟨ts, q3⟩, q4, q5⟩ := i1 hr
        have o1 : n + b ≤ q - p := by clear i1 i2 hq q3 q4 q5; omega
        have o2 : q - p - (n + b) = q - (p + n + b) := by clear i1 i2 hq q3 q4 q5; omega
        have o3 : q - p - n - b = q - (p + n + b) := by clear i1 i2 hq q3 q4 q5; omega
        have o4 : p ≤ q := by clear i1 i2 hq q3 q4 q5; omega
        have o5 : q < p + l.length := by clear i1 i2 hq q3 q4 q5; omega
        have hdq := hdd (q - p) o1
        rw [o2] at hdq
        refine ⟨q, hq, o4, o5, ⟨_, hstep (q - p) ts o1 ?_⟩, ?_, ?_⟩
        · rw [o3]; exact q3
        · rw [← hdq]; exact q4
        · rw [← hdq]; exact q5
      · rw [if_neg hr]
        refine ⟨fun h => absurd rfl h, fun _ k t hk => ?_⟩
        cases k with
        | zero =>
          obtain rfl := Option.some.inj hk
          refine ⟨Nat.le_refl _, ?_, ?_⟩
          · show p < p + l.length
            omega
          · show lexGo (f + 1) p (l.take (p - p)) = _
            rw [Nat.sub_self, List.take_zero]
            rfl
        | succ k =>
          have hk' : r.1[k]? = some t := by simpa using hk
          obtain ⟨a1, a2, a3⟩ := i2 (Classical.byContradiction fun h => hr h) k t hk'
          have o1 : n + b ≤ t.at_ - p := by clear i1 i2 a3; omega
          have o3 : t.at_ - p - n - b = t.at_ - (p + n + b) := by clear i1 i2 a3; omega
          have o4 : p ≤ t.at_ := by clear i1 i2 a3; omega
          have o5 : t.at_ < p + l.length := by clear i1 i2 a3; omega
          refine ⟨o4, o5, ?_⟩
          rw [List.take_succ_cons]
          refine hstep (t.at_ - p) _ o1 ?_
          rw [o3]
          exact a3
    · have hR : lexGo (f + 1) p l = ([], (p : Int), (tk l).2.2.2.2) := by
        rw [lexGo, if_neg hl]
        simp only
        rw [if_pos he]
      rw [hR]
      refine ⟨fun _ => ⟨rfl, p, rfl, Nat.le_refl _, ?_, ⟨[], ?_⟩, ?_, ?_⟩, fun h => absurd h he⟩
      · have : 0 < l.length := List.length_pos_iff.2 hl
        omega
      · rw [Nat.sub_self, List.take_zero]; rfl
      · rw [Nat.sub_self, List.drop_zero]
      · rw [Nat.sub_self, List.drop_zero]; exact hb0
theorem lex_take (l : List UInt8) (q : Nat) (hl : l.length ≤ 16384) (hq : blank l false ≤ q) : lex (l.take q) = lexGo (l.length + 1) (blank l false) ((l.drop (blank l false)).take (q - blank l false)) := by
  have hlen : (l.take q).length ≤ l.length := by rw [List.length_take]; omega
  unfold lex
  rw [if_neg (by omega), blank_take l false q hq, List.drop_take]
  have h2 : ((l.drop (blank l false)).take (q - blank l false)).length ≤ (l.take q).length := by
    rw [List.length_take, List.length_take, List.length_drop]; omega
  exact lexGo_fuel _ _ _ _ (by omega) (by omega)
theorem cuts_law : SLexerCuts.Pure := by
  intro s k0 hs hk0
  suffices h : Ev (fun k => tapearchivelaw28_LexerCuts.f k s k0) true from Ev.get h
  unfold tapearchivelaw28_LexerCuts.f
  refine Ev.both lives_ev (Ev.pos rfl ?_)
  by_cases hbig : (s.size : Int) > 8192
  · exact Ev.pos hbig (Ev.done fun _ => rfl)
  refine Ev.neg hbig ?_
  have hlen : (bs s).length = s.size := rfl
  have hbl := blank_le (bs s) false
  have hlex : lex (bs s) = lexGo ((bs s).length + 1) (blank (bs s) false) ((bs s).drop (blank (bs s) false)) := by
    unfold lex
    rw [if_neg (by omega)]
  obtain ⟨c1, c2⟩ := cut_go ((bs s).length + 1) (blank (bs s) false) ((bs s).drop (blank (bs s) false)) (by rw [List.length_drop]; omega) (blank_drop _ _)
  have hshape := lexGo_shape ((bs s).length + 1) (blank (bs s) false) ((bs s).drop (blank (bs s) false))
  have htake := fun q hq => lex_take (bs s) q (by omega) hq
  rw [← hlex] at c1 c2 hshape
  rw [List.length_drop] at c1 c2
  by_cases he : (lex (bs s)).2.2 = 0
  · have hall : lex (bs s) = ((lex (bs s)).1, 0, 0) := by
      have h1 := hshape he
      rw [Prod.ext_iff, Prod.ext_iff]
      exact ⟨rfl, h1, he⟩
    obtain ⟨xs, hxs, hrel⟩ := tokens_ok s (by omega) _ hall
    have c2 := c2 he
    refine Ev.both hxs (Ev.pos rfl ?_)
    have jt : Ev (fun k => tapearchivelaw28_LexerCuts.j0 k s k0 xs true) true := by
      refine Ev.next (fun k => by rw [tapearchivelaw28_LexerCuts.j0]) ?_
      exact Ev.pos rfl (Ev.done fun _ => rfl)
    by_cases hneg : k0 < 0
    · exact Ev.pos hneg jt
    refine Ev.neg hneg ?_
    by_cases hge : k0 ≥ (xs.length : Int)
    · rw [decide_eq_true hge]; exact jt
    rw [decide_eq_false hge]
    obtain ⟨i, rfl⟩ : ∃ i : Nat, k0 = (i : Int) := ⟨k0.toNat, by omega⟩
    have hi : i < xs.length := by omega
    obtain ⟨t, ht, hr⟩ := hrel.get i hi
    obtain ⟨a1, a2, a3⟩ := c2 i t ht
    rw [← htake t.at_ a1] at a3
    have ef : (rd_T36 xs (i : Int)).f3 = (t.at_ : Int) := by unfold rd_T36; rw [Int.toNat_natCast]; exact hr.2.2.2
    have hcut : lex (bs (s.extract 0 ((t.at_ : Int)).toNat)) = ((lex (bs s)).1.take i, 0, 0) := by
      rw [bs_extract, Int.toNat_natCast, List.drop_zero, Nat.sub_zero]
      exact a3
    obtain ⟨ys, hys, hrel2⟩ := tokens_ok (s.extract 0 ((t.at_ : Int)).toNat) (by rw [size_extract]; omega) _ hcut
    have htk : ∀ {xs ts}, Rels xs ts → ∀ i, Rels (xs.take i) (ts.take i) := by
      intro xs ts h
      induction h with
      | nil => intro i; simp; exact .nil
      | cons h1 _ ih =>
        intro i
        cases i with
        | zero => exact .nil
        | succ i => exact .cons h1 (ih i)
    have heq : ys = xs.take i := hrel2.uniq (htk hrel i)
    refine Ev.next (fun k => by rw [tapearchivelaw28_LexerCuts.j0]) ?_
    rw [ef]
    have p1 : (0 : Int) ≤ (i : Int) := by omega
    have p2 : (i : Int) < (xs.length : Int) := by omega
    have p3 : (0 : Int) ≤ (t.at_ : Int) := by omega
    have p4 : (t.at_ : Int) ≤ (s.size : Int) := by clear ef; omega
    have p5 : (i : Int) ≤ (xs.length : Int) := by omega
    have hsame := same_ev true ys (xs.take ((i : Int)).toNat) (by rw [Int.toNat_natCast, heq]) (by rw [heq, List.length_take]; have := tokens_count s _ ⟨xs, hrel, rfl⟩; rw [if_pos he] at this; simp at this; omega) (fun j _ => by rw [Int.toNat_natCast, heq]; exact ⟨rfl, rfl, rfl, fun _ => rfl⟩)
    exact Ev.neg (by simp) (Ev.pos p1 (Ev.pos p2 (Ev.pos p3 (Ev.pos p4 (Ev.both hys (Ev.pos rfl (Ev.pos p5 (Ev.both hsame (Ev.done fun _ => rfl)))))))))
  · obtain ⟨hnil, q, hq, q1, q2, ⟨ts, q3⟩, q4, q5⟩ := c1 he
    clear c1 c2
    have q2' : q < s.size := by clear hq q3 q4 q5 hlex hshape; omega
    rw [← htake q q1] at q3
    have hdrop : ((bs s).drop (blank (bs s) false)).drop (q - blank (bs s) false) = (bs s).drop q := by
      rw [List.drop_drop]; congr 1; omega
    rw [hdrop] at q4 q5
    have hall : lex (bs s) = ([], (q : Int), (lex (bs s)).2.2) := by
      rw [Prod.ext_iff, Prod.ext_iff]
      exact ⟨hnil, hq, rfl⟩
    have hcut : lex (bs (s.extract 0 ((q : Int)).toNat)) = (ts, 0, 0) := by
      rw [bs_extract, Int.toNat_natCast, List.drop_zero, Nat.sub_zero]
      exact q3
    obtain ⟨ys, hys, _⟩ := tokens_ok (s.extract 0 ((q : Int)).toNat) (by rw [size_extract]; omega) _ hcut
    have hrest : lex (bs (s.extract ((q : Int)).toNat s.size)) = ([], ((0 : Nat) : Int), (lex (bs s)).2.2) := by
      rw [bs_tail]
      have hlen2 : ((bs s).drop q).length = s.size - q := by rw [List.length_drop]; rfl
      unfold lex
      rw [if_neg (by clear q4 q5 q3 hq hlex hshape; omega), q5, List.drop_zero, lexGo, if_neg (fun h => by rw [h] at hlen2; simp at hlen2; clear q4 q5 q3 hq hlex hshape; omega)]
      simp only
      rw [if_pos (by rw [q4]; exact he), q4]
      unfold lex
      rfl
    have ht1 := tokens_err s (by omega) _ _ hall he
    have ht2 := tokens_err (s.extract ((q : Int)).toNat s.size) (by rw [size_extract]; omega) _ _ hrest he
    generalize (lex (bs s)).2.2 = e at *
    have hns : ¬ (q : Int) ≥ (s.size : Int) := by omega
    have p0 : ¬ (q : Int) < 0 := by omega
    have p1 : (0 : Int) ≤ (q : Int) := by omega
    have p2 : (q : Int) ≤ (s.size : Int) := by omega
    refine Ev.both ht1 (Ev.neg he (Ev.neg p0 ?_))
    rw [decide_eq_false hns]
    refine Ev.next (fun k => by rw [tapearchivelaw28_LexerCuts.j1]) ?_
    exact Ev.neg (by simp) (Ev.pos p1 (Ev.pos p2 (Ev.both hys (Ev.both ht2 (Ev.pos rfl (Ev.pos rfl (Ev.done fun _ => by simp)))))))
end Go.Proofs.YtifhmdlgjojodaaDoor.Lex
namespace Go.Proofs.YtifhmdlgjojodaaDoor.Pure
theorem LexerCuts : Go.Proofs.YtifhmdlgjojodaaDoor.SLexerCuts.Pure := Lex.cuts_law
end Go.Proofs.YtifhmdlgjojodaaDoor.Pure
