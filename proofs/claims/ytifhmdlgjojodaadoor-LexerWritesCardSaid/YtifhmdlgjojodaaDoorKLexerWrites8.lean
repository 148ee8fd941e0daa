import Derived.Test.YtifhmdlgjojodaaDoorKLexerWrites7
set_option linter.unusedVariables false
set_option linter.unusedSimpArgs false
section
namespace Go.Proofs.YtifhmdlgjojodaaDoor.Lex
open Go.RowKit Go.Proofs.YtifhmdlgjojodaaDoor.Q Go.Proofs.YtifhmdlgjojodaaDoorW.PrintWords Go.Proofs.YtifhmdlgjojodaaDoorW.PrintMore Go.Proofs.YtifhmdlgjojodaaDoorW.EvMore
theorem rquote_loop (s : ByteArray) (hs : s.size ≤ 4611686018427387904) (d : Nat) : ∀ i, i ≤ s.size → s.size - i = d → ((bs s).take i).all pln = true → Ev (fun k => tapearchiveref28_Quote.l0 k s i) ⟨(quo (bs s)).toArray⟩ := by
  induction d with
  | zero =>
    intro i h1 h2 h3
    have q1 : ¬ (i : Int) < (s.size : Int) := by omega
    have hall : (bs s).all pln = true := by
      have : (bs s).take i = bs s := List.take_of_length_le (by rw [bs_length]; omega)
      rw [this] at h3; exact h3
    refine Ev.next (fun k => by rw [tapearchiveref28_Quote.l0]) ?_
    refine Ev.neg q1 (Ev.pos (by omega) (Ev.pos (by omega) (Ev.done fun _ => ?_)))
    have : quo (bs s) = 34 :: bs s ++ [34] := if_pos hall
    rw [this]
    congr 1
  | succ d ih =>
    intro i h1 h2 h3
    have hlt : i < s.size := by omega
    have q1 : (i : Int) < (s.size : Int) := by omega
    have q2 : 0 ≤ (i : Int) := by omega
    have hw := wrap_succ hs hlt
    obtain ⟨c, hc, hb⟩ := drop_cons hlt
    have hsplit := List.take_append_drop i (bs s)
    refine Ev.next (fun k => by rw [tapearchiveref28_Quote.l0]) ?_
    rw [hb, hw]
    refine Ev.pos q1 (Ev.pos q2 (Ev.bindS (rpln_f c) ?_))
    cases hp : pln c with
    | true =>
      refine Ev.pos rfl (ih (i + 1) (by omega) (by omega) ?_)
      have hl : i < (bs s).length := hlt
      rw [List.take_succ_eq_append_getElem hl, List.all_append, h3]
      rw [List.drop_eq_getElem_cons hl] at hc
      rw [(List.cons.inj hc).1]
      simp [hp]
    | false =>
      have : quo (bs s) = [] := by
        refine if_neg fun h => ?_
        rw [← hsplit, hc, List.all_append] at h
        simp [hp] at h
      rw [this]
      exact Ev.neg (by simp) (Ev.done fun _ => rfl)
theorem rquote_ev (s : ByteArray) (hs : s.size ≤ 4611686018427387904) : Ev (fun k => tapearchiveref28_Quote.f k s) ⟨(quo (bs s)).toArray⟩ := rquote_loop s hs _ 0 (Nat.zero_le _) rfl (by simp)
theorem rname_all (s : ByteArray) (hs : s.size ≤ 4611686018427387904) (d : Nat) : ∀ i, i ≤ s.size → s.size - i = d → ((bs s).take i).all nam = true → Ev (fun k => tapearchiveref28_Name.l0 k s i) ((bs s).all nam) := by
  induction d with
  | zero =>
    intro i h1 h2 h3
    have q1 : ¬ (i : Int) < (s.size : Int) := by omega
    have : (bs s).take i = bs s := List.take_of_length_le (by rw [bs_length]; omega)
    rw [this] at h3
    rw [h3]
    refine Ev.next (fun k => by rw [tapearchiveref28_Name.l0]) ?_
    exact Ev.neg q1 (Ev.done fun _ => rfl)
  | succ d ih =>
    intro i h1 h2 h3
    have hlt : i < s.size := by omega
    have q1 : (i : Int) < (s.size : Int) := by omega
    have q2 : 0 ≤ (i : Int) := by omega
    have hw := wrap_succ hs hlt
    obtain ⟨c, hc, hb⟩ := drop_cons hlt
    have hsplit := List.take_append_drop i (bs s)
    refine Ev.next (fun k => by rw [tapearchiveref28_Name.l0]) ?_
    rw [hb, hw]
    refine Ev.pos q1 (Ev.pos q2 (Ev.bindS (rnam_f c) ?_))
    cases hp : nam c with
    | true =>
      refine Ev.pos rfl (ih (i + 1) (by omega) (by omega) ?_)
      have hl : i < (bs s).length := hlt
      rw [List.take_succ_eq_append_getElem hl, List.all_append, h3]
      rw [List.drop_eq_getElem_cons hl] at hc
      rw [(List.cons.inj hc).1]
      simp [hp]
    | false =>
      have : (bs s).all nam = false := by
        rw [← hsplit, hc, List.all_append]
        simp [hp]
      rw [this]
      exact Ev.neg (by simp) (Ev.done fun _ => rfl)
theorem rname_ev (s : ByteArray) (hs : s.size ≤ 4611686018427387904) : Ev (fun k => tapearchiveref28_Name.f k s) (isName (bs s)) := by
  have jt : Ev (fun k => tapearchiveref28_Name.j0 k s true) false := by
    refine Ev.next (fun k => by rw [tapearchiveref28_Name.j0]) ?_
    exact Ev.pos rfl (Ev.done fun _ => rfl)
  unfold tapearchiveref28_Name.f
  by_cases hb0 : bs s = []
  · have h0 := bs_size hb0
    rw [hb0]
    have h00 : s.size = 0 := h0
    exact Ev.pos (by omega) jt
  · obtain ⟨c, r, hb⟩ := List.exists_cons_of_ne_nil hb0
    have h0 := bs_size hb
    simp only [List.length_cons] at h0
    refine Ev.neg (by omega) (Ev.pos (by omega) ?_)
    rw [show bt s 0 = (c.toNat : Int) from bt_get s 0 c (by rw [hb]; rfl)]
    refine Ev.bindS (rdig_f c) ?_
    by_cases hd : dig c = true
    · have : isName (bs s) = false := by rw [hb]; simp [isName, hd]
      rw [this]
      exact Ev.pos hd jt
    · refine Ev.neg hd ?_
      by_cases h45 : c = 45
      · have : isName (bs s) = false := by rw [hb]; simp [isName, h45]
        rw [this, h45]
        exact jt
      · have : isName (bs s) = (bs s).all nam := by rw [hb]; simp only [isName]; simp [hd, h45]
        have hf : ((c.toNat : Int) == 45) = false := by
          rw [beq_eq_false_iff_ne]
          exact fun e => h45 (u8_eq e)
        rw [this, hf]
        refine Ev.next (fun k => by rw [tapearchiveref28_Name.j0]) ?_
        exact Ev.neg (by simp) (rname_all s hs _ 0 (Nat.zero_le _) rfl (by simp))
theorem dec_ne (u : Nat) : Lib.decDigits u ≠ [] := by
  intro h
  have := congrArg List.length h
  rw [Lib.decDigits_length] at this
  have := Lib.nDigits_pos u
  simp at *
  omega
theorem rvalid_ev (a0 : Int) (a1 : ByteArray) (a2 a3 : Int) (hs : a1.size ≤ 4611686018427387904) : Ev (fun k => tapearchiveref28_Valid.f k a0 a1 a2 a3) (decide (wd a0 (bs a1) a2 ≠ [])) := by
  unfold tapearchiveref28_Valid.f
  by_cases h1 : a0 = 1
  · have hw : wd a0 (bs a1) a2 = if a2 = 0 ∧ isName (bs a1) = true then bs a1 else [] := (if_neg (by omega)).trans ((if_neg (by omega)).trans (if_pos h1))
    refine Ev.pos h1 (Ev.both (rname_ev a1 hs) ?_)
    by_cases hn : isName (bs a1) = true
    · refine Ev.pos hn (Ev.done fun _ => ?_)
      have hne : bs a1 ≠ [] := by intro h; rw [h] at hn; simp [isName] at hn
      congr 1
      rw [hw, Bool.eq_iff_iff, beq_iff_eq, decide_eq_true_eq]
      by_cases h0 : a2 = 0
      · simp [h0, hn, hne]
      · simp [h0]
    · refine Ev.neg hn (Ev.done fun _ => ?_)
      congr 1
      rw [hw, if_neg (fun h => hn h.2)]
      simp
  · refine Ev.neg h1 ?_
    by_cases h2 : a0 = 2
    · have hw : wd a0 (bs a1) a2 = if bs a1 = [] ∧ 0 ≤ a2 ∧ a2 ≤ 1125899906842624 then Lib.decDigits a2.toNat else [] := if_pos h2
      refine Ev.pos h2 ?_
      by_cases ht : bs a1 = []
      · refine Ev.pos (by rw [toList_bs]; exact ht) ?_
        by_cases h0 : a2 ≥ 0
        · refine Ev.pos h0 (Ev.done fun _ => ?_)
          congr 1
          rw [hw, decide_eq_decide]
          have hd := dec_ne a2.toNat
          by_cases hm : a2 ≤ 1125899906842624
          · rw [if_pos ⟨ht, h0, hm⟩]; exact ⟨fun _ => hd, fun _ => hm⟩
          · rw [if_neg (fun h => hm h.2.2)]; exact ⟨fun h => absurd h hm, fun h => absurd rfl h⟩
        · refine Ev.neg h0 (Ev.done fun _ => ?_)
          rw [hw, if_neg (fun h => h0 h.2.1)]
          simp
      · refine Ev.neg (by rw [toList_bs]; exact ht) (Ev.done fun _ => ?_)
        rw [hw, if_neg (fun h => ht h.1)]
        simp
    · refine Ev.neg h2 ?_
      by_cases h3 : a0 = 3
      · have hw : wd a0 (bs a1) a2 = if a2 = 0 then quo (bs a1) else [] := (if_neg h2).trans (if_pos h3)
        refine Ev.pos h3 (Ev.both (rquote_ev a1 hs) ?_)
        by_cases hq : quo (bs a1) = []
        · refine Ev.pos (by rw [toList_bs, bs_mk]; exact hq) (Ev.done fun _ => ?_)
          rw [hw, hq]
          simp
        · refine Ev.neg (by rw [toList_bs, bs_mk]; exact hq) (Ev.done fun _ => ?_)
          congr 1
          rw [hw, Bool.eq_iff_iff, beq_iff_eq, decide_eq_true_eq]
          by_cases h0 : a2 = 0
          · simp [h0, hq]
          · simp [h0]
      · refine Ev.neg h3 ?_
        by_cases h4 : a0 = 4
        · have hw : wd a0 (bs a1) a2 = if a2 = 0 ∧ symT (bs a1) = true then bs a1 else [] := (if_neg h2).trans ((if_neg h3).trans ((if_neg h1).trans (if_pos h4)))
          refine Ev.pos h4 (Ev.bindS (rsymbol_f a1) ?_)
          by_cases hy : symT (bs a1) = true
          · refine Ev.pos hy (Ev.done fun _ => ?_)
            have hne : bs a1 ≠ [] := by intro h; rw [h] at hy; simp [symT] at hy
            congr 1
            rw [hw, Bool.eq_iff_iff, beq_iff_eq, decide_eq_true_eq]
            by_cases h0 : a2 = 0
            · simp [h0, hy, hne]
            · simp [h0]
          · refine Ev.neg hy (Ev.done fun _ => ?_)
            rw [hw, if_neg (fun h => hy h.2)]
            simp
        · refine Ev.neg h4 (Ev.done fun _ => ?_)
          rw [show wd a0 (bs a1) a2 = [] from (if_neg h2).trans ((if_neg h3).trans ((if_neg h1).trans (if_neg h4)))]
          simp
theorem str_one (n : Nat) (h : n < 10) : strOfNums [wrap64 (48 + (n : Int)) % 256] = ⟨#[UInt8.ofNat (48 + n)]⟩ := by
  have key : ∀ n : Fin 10, strOfNums [wrap64 (48 + (n.val : Int)) % 256] = ⟨#[UInt8.ofNat (48 + n.val)]⟩ := by decide +kernel
  exact key ⟨n, h⟩
theorem rdec_loop : ∀ (d n : Nat) (s : ByteArray), n < 10 ^ d → s.size + d ≤ 1000 → n ≤ 9223372036854775807 → Ev (fun k => tapearchiveref28_Decimal.l0 k n s) ⟨((if n < 10 then [] else Lib.decDigits (n / 10)) ++ bs s).toArray⟩
  | 0, n, s, h1, h2, h3 => by
    have : n = 0 := by simp at h1; omega
    subst this
    refine Ev.next (fun k => by rw [tapearchiveref28_Decimal.l0]) ?_
    exact Ev.neg (by omega) (Ev.done fun _ => rfl)
  | d + 1, n, s, h1, h2, h3 => by
    refine Ev.next (fun k => by rw [tapearchiveref28_Decimal.l0]) ?_
    by_cases hn : n < 10
    · have e : (if n < 10 then [] else Lib.decDigits (n / 10)) = ([] : List UInt8) := if_pos hn
      rw [e]
      exact Ev.neg (by omega) (Ev.done fun _ => rfl)
    · have e : (if n < 10 then [] else Lib.decDigits (n / 10)) = Lib.decDigits (n / 10) := if_neg hn
      have e1 : wrap64 (Int.tdiv (n : Int) 10) = ((n / 10 : Nat) : Int) := by
        rw [show Int.tdiv (n : Int) 10 = ((n / 10 : Nat) : Int) from rfl]
        exact wrap_nat (by omega)
      have e2 : Int.tmod ((n / 10 : Nat) : Int) 10 = ((n / 10 % 10 : Nat) : Int) := rfl
      rw [e, e1, e2]
      clear e1 e2
      have hm : n / 10 % 10 < 10 := Nat.mod_lt _ (by omega)
      have ih := rdec_loop d (n / 10) ((⟨#[UInt8.ofNat (48 + n / 10 % 10)]⟩ : ByteArray) ++ s) (by rw [Nat.pow_succ] at h1; omega) (by rw [ByteArray.size_append]; show 1 + s.size + d ≤ 1000; omega) (by omega)
      have hd : Lib.decDigits (n / 10) ++ bs s = (if n / 10 < 10 then [] else Lib.decDigits (n / 10 / 10)) ++ bs ((⟨#[UInt8.ofNat (48 + n / 10 % 10)]⟩ : ByteArray) ++ s) := by
        rw [bs_append, Lib.decDigits]
        split
        · rename_i h10
          rw [Nat.mod_eq_of_lt h10]
          rfl
        · rw [List.append_assoc]
          rfl
      rw [hd]
      refine Ev.pos (by omega) (Ev.bindS rfl ?_)
      rw [str_one _ hm]
      refine Ev.pos ?_ ih
      show 1 + s.size ≤ _
      omega
theorem rdec_ev (n : Nat) (h : n ≤ 9223372036854775807) : Ev (fun k => tapearchiveref28_Decimal.f k n) ⟨(Lib.decDigits n).toArray⟩ := by
  have hm : n % 10 < 10 := Nat.mod_lt _ (by omega)
  have hl := rdec_loop 20 n ⟨#[UInt8.ofNat (48 + n % 10)]⟩ (by omega) (by show 1 + 20 ≤ 1000; omega) h
  have hd : Lib.decDigits n = (if n < 10 then [] else Lib.decDigits (n / 10)) ++ bs (⟨#[UInt8.ofNat (48 + n % 10)]⟩ : ByteArray) := by
    rw [Lib.decDigits]
    split
    · rename_i h10
      rw [Nat.mod_eq_of_lt h10]
      rfl
    · rfl
  unfold tapearchiveref28_Decimal.f
  rw [hd, show Int.tmod (n : Int) 10 = ((n % 10 : Nat) : Int) from rfl, str_one _ hm]
  exact hl
theorem rtext_add (l : List S36) (s : ByteArray) (i : Nat) (hi : i < l.length) (hil : l.length ≤ 4611686018427387904) (hs : s.size ≤ 1000000) (hf : (l[i]'hi).f1.size ≤ 1000000) (hv : wd (l[i]'hi).f0 (bs (l[i]'hi).f1) (l[i]'hi).f2 ≠ []) (r : ByteArray)
    (h : Ev (fun k => tapearchiveref28_Text.l0 k l (s ++ ⟨(wd (l[i]'hi).f0 (bs (l[i]'hi).f1) (l[i]'hi).f2).toArray⟩) ((i + 1 : Nat) : Int)) r) : Ev (fun k => tapearchiveref28_Text.j2 k l s i) r := by
  have q1 : (i : Int) < (l.length : Int) := by omega
  have q2 : 0 ≤ (i : Int) := by omega
  have hrd : rd_T36 l (i : Int) = l[i]'hi := by unfold rd_T36; rw [Int.toNat_natCast, List.getD_eq_getElem?_getD, List.getElem?_eq_getElem hi]; rfl
  have e2 : wrap64 ((i : Int) + 1) = ((i + 1 : Nat) : Int) := by rw [wrap_in (by omega) (by omega)]; omega
  generalize l[i]'hi = x at hf hv h hrd
  refine Ev.next (fun k => by rw [tapearchiveref28_Text.j2]) ?_
  rw [hrd, e2]
  clear e2
  refine Ev.pos q2 (Ev.pos q1 ?_)
  have hwl := wd_len x.f0 (bs x.f1) x.f2
  rw [bs_length] at hwl
  by_cases h2 : x.f0 = 2
  · have hw : wd x.f0 (bs x.f1) x.f2 = if bs x.f1 = [] ∧ 0 ≤ x.f2 ∧ x.f2 ≤ 1125899906842624 then Lib.decDigits x.f2.toNat else [] := if_pos h2
    have hc : bs x.f1 = [] ∧ 0 ≤ x.f2 ∧ x.f2 ≤ 1125899906842624 := by
      refine Classical.byContradiction fun hc => hv (hw.trans (if_neg hc))
    rw [hw.trans (if_pos hc)] at h hwl
    have hd := rdec_ev x.f2.toNat (by omega)
    have hx : ((x.f2.toNat : Nat) : Int) = x.f2 := by omega
    rw [hx] at hd
    refine Ev.pos h2 (Ev.both hd (Ev.pos ?_ h))
    show s.size + (Lib.decDigits x.f2.toNat).length ≤ _
    omega
  · refine Ev.neg h2 ?_
    by_cases h3 : x.f0 = 3
    · have hw : wd x.f0 (bs x.f1) x.f2 = if x.f2 = 0 then quo (bs x.f1) else [] := (if_neg h2).trans (if_pos h3)
      have hc : x.f2 = 0 := by
        refine Classical.byContradiction fun hc => hv (hw.trans (if_neg hc))
      rw [hw.trans (if_pos hc)] at h hwl
      refine Ev.pos h3 (Ev.both (rquote_ev x.f1 (by omega)) (Ev.pos ?_ h))
      show s.size + (quo (bs x.f1)).length ≤ _
      omega
    · refine Ev.neg h3 ?_
      have hb : (⟨(wd x.f0 (bs x.f1) x.f2).toArray⟩ : ByteArray) = x.f1 := by
        have : wd x.f0 (bs x.f1) x.f2 = bs x.f1 := by
          have hw : wd x.f0 (bs x.f1) x.f2 = if x.f0 = 1 then (if x.f2 = 0 ∧ isName (bs x.f1) = true then bs x.f1 else []) else if x.f0 = 4 then (if x.f2 = 0 ∧ symT (bs x.f1) = true then bs x.f1 else []) else [] := (if_neg h2).trans (if_neg h3)
          rw [hw] at hv ⊢
          split at hv
          · rename_i h1
            rw [if_pos h1]
            split at hv
            · rename_i hh; rw [if_pos hh]
            · exact absurd rfl hv
          · rename_i h1
            rw [if_neg h1]
            split at hv
            · rename_i h4
              rw [if_pos h4]
              split at hv
              · rename_i hh; rw [if_pos hh]
              · exact absurd rfl hv
            · exact absurd rfl hv
        rw [this]
        exact bs_inj rfl
      rw [hb] at h
      exact Ev.pos (by omega) h
theorem join_snoc (ws : List (List UInt8)) (w : List UInt8) (h : ws ≠ []) : Lib.join (ws ++ [w]) [32] = Lib.join ws [32] ++ 32 :: w := by
  cases ws with
  | nil => exact absurd rfl h
  | cons x r =>
    rw [List.cons_append, Lib.join_cons, Lib.join_cons]
    simp [Lib.joinTail]
theorem rtext_loop2 (l : List S36) (hl : l.length ≤ 4611686018427387904) (hsz : ∀ x ∈ l, x.f1.size ≤ 900000) (d : Nat) : ∀ (i : Nat) (s : ByteArray), i ≤ l.length → l.length - i = d → bs s = Lib.join ((wds l).take i) [32] → ([] : List UInt8) ∉ (wds l).take i → s.size ≤ 1000000 →
    Ev (fun k => tapearchiveref28_Text.l0 k l s i) ⟨(txt (wds l)).toArray⟩ := by
  have hlw : (wds l).length = l.length := by simp [wds]
  have big : ∀ i, i ≤ l.length → 16384 < (Lib.join ((wds l).take i) [32]).length → txt (wds l) = [] := by
    intro i hi h
    refine if_pos (.inr ?_)
    have h1 := tot_take_le (wds l) i
    by_cases hn : (wds l).take i = []
    · rw [hn] at h; simp [Lib.join] at h
    · have := join_tot _ hn
      omega
  induction d with
  | zero =>
    intro i s h1 h2 h3 h4 h5
    have q1 : ¬ (i : Int) < (l.length : Int) := by omega
    have hfull : (wds l).take i = wds l := List.take_of_length_le (by omega)
    refine Ev.next (fun k => by rw [tapearchiveref28_Text.l0]) ?_
    refine Ev.neg q1 ?_
    have hsl : s.size = (Lib.join ((wds l).take i) [32]).length := bs_size h3
    by_cases hb : (s.size : Int) > 16384
    · rw [big i h1 (by omega)]
      exact Ev.pos hb (Ev.done fun _ => rfl)
    · have ht : txt (wds l) = Lib.join (wds l) [32] := by
        refine if_neg ?_
        rw [hfull] at h3 h4 hsl
        rintro (h | h)
        · exact h4 h
        · by_cases hn : wds l = []
          · rw [hn] at h; simp [tot] at h
          · have := join_tot _ hn
            omega
      rw [ht]
      refine Ev.neg hb (Ev.done fun _ => ?_)
      congr 1
      apply bs_inj
      rw [h3, hfull, bs_mk]
  | succ d ih =>
    intro i s h1 h2 h3 h4 h5
    have hlt : i < l.length := by omega
    have q1 : (i : Int) < (l.length : Int) := by omega
    have q2 : 0 ≤ (i : Int) := by omega
    have hget : l[i]? = some (l[i]'hlt) := List.getElem?_eq_getElem hlt
    have hrd : rd_T36 l (i : Int) = l[i]'hlt := by unfold rd_T36; rw [Int.toNat_natCast, List.getD_eq_getElem?_getD, hget]; rfl
    have hwi : (wds l)[i]? = some (wd (l[i]'hlt).f0 (bs (l[i]'hlt).f1) (l[i]'hlt).f2) := by
      unfold wds
      rw [List.getElem?_map, hget]
      rfl
    have hf := hsz (l[i]'hlt) (List.getElem_mem hlt)
    have hve := rvalid_ev (l[i]'hlt).f0 (l[i]'hlt).f1 (l[i]'hlt).f2 (l[i]'hlt).f3 (by omega)
    have hadd := fun s' hs' hv r => rtext_add l s' i hlt hl hs' (by omega) hv r
    have hwl := wd_len (l[i]'hlt).f0 (bs (l[i]'hlt).f1) (l[i]'hlt).f2
    rw [bs_length] at hwl
    have hlt2 : i < (wds l).length := by omega
    have hts : (wds l).take (i + 1) = (wds l).take i ++ [wd (l[i]'hlt).f0 (bs (l[i]'hlt).f1) (l[i]'hlt).f2] := by
      rw [List.take_succ_eq_append_getElem hlt2]
      rw [List.getElem?_eq_getElem hlt2] at hwi
      rw [Option.some.inj hwi]
    refine Ev.next (fun k => by rw [tapearchiveref28_Text.l0]) ?_
    rw [hrd]
    generalize wd (l[i]'hlt).f0 (bs (l[i]'hlt).f1) (l[i]'hlt).f2 = w at *
    refine Ev.pos q1 (Ev.pos q2 (Ev.both hve ?_))
    have jt : txt (wds l) = [] → Ev (fun k => tapearchiveref28_Text.j1 k l s i true) ⟨(txt (wds l)).toArray⟩ := by
      intro h
      rw [h]
      refine Ev.next (fun k => by rw [tapearchiveref28_Text.j1]) ?_
      exact Ev.pos rfl (Ev.done fun _ => rfl)
    by_cases hv : w ≠ []
    · refine Ev.pos (by rw [decide_eq_true_eq]; exact hv) ?_
      by_cases hb : (s.size : Int) > 16384
      · rw [decide_eq_true hb]
        refine jt (big i h1 ?_)
        have := bs_size h3
        omega
      · rw [decide_eq_false hb]
        refine Ev.next (fun k => by rw [tapearchiveref28_Text.j1]) ?_
        refine Ev.neg (by simp) ?_
        have hni : ([] : List UInt8) ∉ (wds l).take (i + 1) := by
          rw [hts]
          intro hm
          rcases List.mem_append.1 hm with hm | hm
          · exact h4 hm
          · exact hv (List.mem_singleton.1 hm).symm
        by_cases h0 : i = 0
        · subst h0
          refine Ev.neg (by omega) (hadd s (by omega) hv _ (ih 1 _ (by omega) (by omega) ?_ hni ?_))
          · rw [bs_append, h3, hts]
            simp [Lib.join_one, Lib.join, bs_mk]
          · rw [ByteArray.size_append]
            show s.size + w.length ≤ _
            omega
        · refine Ev.pos (by omega) (Ev.pos (by omega) (hadd _ ?_ hv _ (ih (i + 1) _ (by omega) (by omega) ?_ hni ?_)))
          · rw [ByteArray.size_append]
            show s.size + 1 ≤ _
            omega
          · rw [bs_append, bs_append, h3, hts, join_snoc _ _ ?_]
            · rw [List.append_assoc]; rfl
            · intro h
              have := congrArg List.length h
              rw [List.length_take, List.length_nil] at this
              omega
          · rw [ByteArray.size_append, ByteArray.size_append]
            show s.size + 1 + w.length ≤ _
            omega
    · refine Ev.neg (by rw [decide_eq_true_eq]; exact hv) (jt (if_pos (.inl ?_)))
      rw [← Classical.not_not.1 hv]
      exact List.mem_of_getElem? hwi
theorem rtext_ev2 (l : List S36) (hl : l.length ≤ 4611686018427387904) (hsz : ∀ x ∈ l, x.f1.size ≤ 900000) : Ev (fun k => tapearchiveref28_Text.f k l) ⟨(txt (wds l)).toArray⟩ :=
  rtext_loop2 l hl hsz _ 0 ⟨#[]⟩ (Nat.zero_le _) rfl rfl (by simp) (by show 0 ≤ _; omega)
end Go.Proofs.YtifhmdlgjojodaaDoor.Lex
end
section
namespace Go.Proofs.YtifhmdlgjojodaaDoor.Lex
open Go.RowKit Go.Proofs.YtifhmdlgjojodaaDoor.Q Go.Proofs.YtifhmdlgjojodaaDoorW.PrintWords Go.Proofs.YtifhmdlgjojodaaDoorW.PrintMore Go.Proofs.YtifhmdlgjojodaaDoorW.EvMore
theorem rd_get (l : List S36) (i : Nat) (h : i < l.length) : rd_T36 l (i : Int) = l[i]'h := by
  unfold rd_T36
  rw [Int.toNat_natCast, List.getD_eq_getElem?_getD, List.getElem?_eq_getElem h]
  rfl
theorem small_loop (l : List S36) (hl : l.length ≤ 4611686018427387904) (hsz : ∀ x ∈ l, x.f1.size ≤ 4611686018427387800) (d : Nat) : ∀ (i n : Nat), i ≤ l.length → l.length - i = d → n ≤ 32768 → (∀ x ∈ l.take i, x.f1.size ≤ 32768) →
    ∃ b, Ev (fun k => tapearchivelaw28_small.l0 k l n i) b ∧ (b = true → ∀ x ∈ l, x.f1.size ≤ 32768) := by
  induction d with
  | zero =>
    intro i n h1 h2 h3 h4
    have q1 : ¬ (i : Int) < (l.length : Int) := by omega
    refine ⟨true, Ev.next (fun k => by rw [tapearchivelaw28_small.l0]) (Ev.neg q1 (Ev.done fun _ => rfl)), fun _ => ?_⟩
    rw [List.take_of_length_le (by omega)] at h4
    exact h4
  | succ d ih =>
    intro i n h1 h2 h3 h4
    have hlt : i < l.length := by omega
    have q1 : (i : Int) < (l.length : Int) := by omega
    have q2 : 0 ≤ (i : Int) := by omega
    have hf := hsz (l[i]'hlt) (List.getElem_mem hlt)
    have hts : l.take (i + 1) = l.take i ++ [l[i]'hlt] := List.take_succ_eq_append_getElem hlt
    by_cases hb : n + (l[i]'hlt).f1.size > 32768
    · refine ⟨false, ?_, fun h => by cases h⟩
      refine Ev.next (fun k => by rw [tapearchivelaw28_small.l0]) ?_
      rw [rd_get l i hlt]
      generalize l[i]'hlt = x at *
      have e : wrap64 ((n : Int) + (x.f1.size : Int)) = ((n + x.f1.size : Nat) : Int) := by rw [wrap_in (by omega) (by omega)]; omega
      rw [e]
      exact Ev.pos q1 (Ev.pos q2 (Ev.pos (by omega) (Ev.done fun _ => rfl)))
    · obtain ⟨b, hev, himp⟩ := ih (i + 1) (n + (l[i]'hlt).f1.size) (by omega) (by omega) (by omega) (by
        rw [hts]
        intro x hx
        rcases List.mem_append.1 hx with hx | hx
        · exact h4 x hx
        · rw [List.mem_singleton.1 hx]; omega)
      refine ⟨b, ?_, himp⟩
      refine Ev.next (fun k => by rw [tapearchivelaw28_small.l0]) ?_
      rw [rd_get l i hlt]
      generalize l[i]'hlt = x at *
      have e : wrap64 ((n : Int) + (x.f1.size : Int)) = ((n + x.f1.size : Nat) : Int) := by rw [wrap_in (by omega) (by omega)]; omega
      rw [e]
      clear e
      have e2 : wrap64 ((i : Int) + 1) = ((i + 1 : Nat) : Int) := by rw [wrap_in (by omega) (by omega)]; omega
      rw [e2]
      exact Ev.pos q1 (Ev.pos q2 (Ev.neg (by omega) hev))
theorem small_ev (l : List S36) (hsz : ∀ x ∈ l, x.f1.size ≤ 4611686018427387800) : ∃ b, Ev (fun k => tapearchivelaw28_small.f k l) b ∧ (b = true → l.length ≤ 400 ∧ ∀ x ∈ l, x.f1.size ≤ 32768) := by
  unfold tapearchivelaw28_small.f
  by_cases h : (l.length : Int) > 400
  · exact ⟨false, Ev.pos h (Ev.done fun _ => rfl), fun h => by cases h⟩
  · obtain ⟨b, hev, himp⟩ := small_loop l (by omega) hsz _ 0 0 (Nat.zero_le _) rfl (by omega) (by simp)
    exact ⟨b, Ev.neg h hev, fun hb => ⟨by omega, himp hb⟩⟩
end Go.Proofs.YtifhmdlgjojodaaDoor.Lex
end
section
namespace Go.Proofs.YtifhmdlgjojodaaDoor.Lex
open Go.RowKit Go.Proofs.YtifhmdlgjojodaaDoor.Q Go.Proofs.YtifhmdlgjojodaaDoorW.PrintWords Go.Proofs.YtifhmdlgjojodaaDoorW.PrintMore Go.Proofs.YtifhmdlgjojodaaDoorW.EvMore
theorem writes : SLexerWrites.Pure := by
  intro l s hl hs
  suffices h : Ev (fun k => tapearchivelaw28_LexerWrites.f k l s) true from Ev.get h
  obtain ⟨hl1, hl2, hl3⟩ := hl
  have hsz : ∀ x ∈ l, x.f1.size ≤ 4611686018427387800 := fun x hx => by have := (hl3 x hx).2.1; omega
  have jt : Ev (fun k => tapearchivelaw28_LexerWrites.j0 k l s true) true := by
    refine Ev.next (fun k => by rw [tapearchivelaw28_LexerWrites.j0]) ?_
    exact Ev.pos rfl (Ev.done fun _ => rfl)
  obtain ⟨b, hb, himp⟩ := small_ev l hsz
  unfold tapearchivelaw28_LexerWrites.f
  refine Ev.both lives_ev (Ev.pos rfl (Ev.both hb ?_))
  cases b with
  | false => exact Ev.neg (by simp) jt
  | true =>
    obtain ⟨h1, h2⟩ := himp rfl
    refine Ev.pos rfl ?_
    by_cases hbig : (s.size : Int) > 4096
    · rw [decide_eq_true hbig]; exact jt
    · rw [decide_eq_false hbig]
      refine Ev.next (fun k => by rw [tapearchivelaw28_LexerWrites.j0]) ?_
      have ht := text_ev l (by omega) hsz
      have hr := rtext_ev2 l (by omega) (fun x hx => by have := h2 x hx; omega)
      have hq := quote_ev s (by omega)
      have hq2 := rquote_ev s (by omega)
      refine Ev.neg (by simp) (Ev.bindS (unit_f s) (Ev.bindS (runit_f s) (Ev.both ht (Ev.both hr (Ev.pos rfl (Ev.both hq (Ev.both hq2 (Ev.pos rfl (Ev.pos rfl (Ev.done fun _ => ?_))))))))))
      simp
end Go.Proofs.YtifhmdlgjojodaaDoor.Lex
namespace Go.Proofs.YtifhmdlgjojodaaDoor.Pure
theorem LexerWrites : Go.Proofs.YtifhmdlgjojodaaDoor.SLexerWrites.Pure := Lex.writes
end Go.Proofs.YtifhmdlgjojodaaDoor.Pure
end
