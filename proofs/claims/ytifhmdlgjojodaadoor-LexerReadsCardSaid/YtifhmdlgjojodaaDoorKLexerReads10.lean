import Derived.Test.YtifhmdlgjojodaaDoorKLexerReads9
section
namespace Go.Proofs.YtifhmdlgjojodaaDoor.Lex
open Go.RowKit Go.Proofs.YtifhmdlgjojodaaDoor.Q Go.Proofs.YtifhmdlgjojodaaDoorW.PrintWords Go.Proofs.YtifhmdlgjojodaaDoorW.PrintMore Go.Proofs.YtifhmdlgjojodaaDoorW.EvMore
theorem lives_ev : Ev (fun k => tapearchivelaw28_lives.f k) true := by
  refine ⟨40, fun k hk => ?_⟩
  induction k with
  | zero => omega
  | succ k ih =>
    by_cases h : 40 ≤ k
    · exact tapearchivelaw28_lives.mono k _ (ih h)
    · have : k + 1 = 40 := by omega
      rw [this]
      exact lives_f
def Sm (b : Bool) (x y : S36) : Prop := x.f0 = y.f0 ∧ x.f1 = y.f1 ∧ x.f2 = y.f2 ∧ (b = true → x.f3 = y.f3)
theorem same_loop (b : Bool) (xs ys : List S36) (hl : xs.length = ys.length) (hn : xs.length ≤ 4611686018427387904) (h : ∀ i, i < xs.length → Sm b (xs.getD i z36) (ys.getD i z36)) (d : Nat) : ∀ i, i ≤ xs.length → xs.length - i = d → Ev (fun k => tapearchiveref28_Same.l0 k xs ys b i) true := by
  induction d with
  | zero =>
    intro i h1 h2
    have q : ¬ (i : Int) < (xs.length : Int) := by omega
    refine Ev.next (fun k => by rw [tapearchiveref28_Same.l0]) ?_
    exact Ev.neg q (Ev.done fun _ => rfl)
  | succ d ih =>
    intro i h1 h2
    have hlt : i < xs.length := by omega
    have q1 : (i : Int) < (xs.length : Int) := by omega
    have q2 : 0 ≤ (i : Int) := by omega
    have q3 : (i : Int) < (ys.length : Int) := by omega
    have hw : wrap64 ((i : Int) + 1) = ((i + 1 : Nat) : Int) := by rw [wrap_in (by omega) (by omega)]; omega
    obtain ⟨g0, g1, g2, g3⟩ := h i hlt
    have ihn := ih (i + 1) (by omega) (by omega)
    have j : Ev (fun k => tapearchiveref28_Same.j1 k xs ys b i false) true := by
      refine Ev.next (fun k => by rw [tapearchiveref28_Same.j1]) ?_
      rw [hw]
      exact Ev.neg (by simp) ihn
    refine Ev.next (fun k => by rw [tapearchiveref28_Same.l0]) ?_
    refine Ev.pos q1 (Ev.pos q2 (Ev.pos q3 (Ev.pos g0 (Ev.pos (by unfold rd_T36; rw [Int.toNat_natCast, g1]) (Ev.pos g2 ?_)))))
    cases b with
    | false => exact Ev.neg (by simp) j
    | true =>
      have e : ((rd_T36 xs (i : Int)).f3 != (rd_T36 ys (i : Int)).f3) = false := by
        unfold rd_T36
        rw [Int.toNat_natCast, g3 rfl]
        simp
      rw [e]
      exact Ev.pos rfl j
theorem same_ev (b : Bool) (xs ys : List S36) (hl : xs.length = ys.length) (hn : xs.length ≤ 4611686018427387904) (h : ∀ i, i < xs.length → Sm b (xs.getD i z36) (ys.getD i z36)) : Ev (fun k => tapearchiveref28_Same.f k xs ys b) true :=
  Ev.pos (by omega) (same_loop b xs ys hl hn h _ 0 (Nat.zero_le _) rfl)
theorem Rels.get {xs ts} (h : Rels xs ts) : ∀ i, i < xs.length → ∃ t, ts[i]? = some t ∧ Rel (xs.getD i z36) t := by
  induction h with
  | nil => intro i hi; simp at hi
  | @cons a t xs ts h1 _ ih =>
    intro i hi
    cases i with
    | zero => exact ⟨t, rfl, h1⟩
    | succ i =>
      obtain ⟨u, hu, hr⟩ := ih i (by simpa using hi)
      exact ⟨u, by simpa using hu, by simpa using hr⟩
theorem Rel.uniq {a b : S36} {t : Tok} (h : Rel a t) (k : Rel b t) : a = b := by
  obtain ⟨h0, h1, h2, h3⟩ := h
  obtain ⟨k0, k1, k2, k3⟩ := k
  cases a; cases b
  simp only at h0 h1 h2 h3 k0 k1 k2 k3
  rw [h0, k0, h2, k2, h3, k3, bs_inj (h1.trans k1.symm)]
theorem Rels.uniq {xs ys ts} (h : Rels xs ts) (k : Rels ys ts) : xs = ys := by
  induction h generalizing ys with
  | nil => cases k; rfl
  | cons h1 _ ih =>
    cases k with
    | cons k1 k2 => rw [h1.uniq k1, ih k2]
theorem Outs.uniq {acc r o o'} (h : Outs acc r o) (k : Outs acc r o') : o = o' := by
  obtain ⟨xs, hx, rfl⟩ := h
  obtain ⟨ys, hy, rfl⟩ := k
  rw [hx.uniq hy]
theorem tokens_count (s : ByteArray) (o) (h : Outs [] (lex (bs s)) o) : o.1.length ≤ 16384 := by
  obtain ⟨xs, hx, rfl⟩ := h
  have cnt : ∀ (f p : Nat) (l : List UInt8), (lexGo f p l).1.length ≤ l.length := by
    intro f
    induction f with
    | zero => intro p l; simp [lexGo]
    | succ f ih =>
      intro p l
      rw [lexGo]
      split
      · simp
      · simp only
        split
        · simp
        · rename_i h1
          have htl := tk_len l (Classical.byContradiction fun h => h1 h)
          have := ih (p + (tk l).2.2.2.1 + blank (l.drop (tk l).2.2.2.1) false) ((l.drop (tk l).2.2.2.1).drop (blank (l.drop (tk l).2.2.2.1) false))
          rw [List.length_drop, List.length_drop] at this
          split
          · simp
          · simp only [List.length_cons]; omega
  have h2 : (lex (bs s)).1.length ≤ 16384 := by
    unfold lex
    split
    · simp
    · rename_i hb
      have := cnt ((bs s).length + 1) (blank (bs s) false) ((bs s).drop (blank (bs s) false))
      rw [List.length_drop] at this
      omega
  have h3 := hx.length
  split
  · show ([] ++ xs).length ≤ 16384
    rw [List.nil_append]
    omega
  · simp
end Go.Proofs.YtifhmdlgjojodaaDoor.Lex
end
section
namespace Go.Proofs.YtifhmdlgjojodaaDoor.Lex
open Go.RowKit Go.Proofs.YtifhmdlgjojodaaDoor.Q Go.Proofs.YtifhmdlgjojodaaDoorW.PrintWords Go.Proofs.YtifhmdlgjojodaaDoorW.PrintMore Go.Proofs.YtifhmdlgjojodaaDoorW.EvMore
theorem reads : SLexerReads.Pure := by
  intro s hs
  suffices h : Ev (fun k => tapearchivelaw28_LexerReads.f k s) true from Ev.get h
  unfold tapearchivelaw28_LexerReads.f
  refine Ev.both lives_ev (Ev.pos rfl ?_)
  by_cases hb : (s.size : Int) > 32768
  · exact Ev.pos hb (Ev.done fun _ => rfl)
  refine Ev.neg hb ?_
  obtain ⟨o, ho, hs1⟩ := tokens_ev s (by omega)
  obtain ⟨o', ho', hs2⟩ := rtokens_ev s
  obtain rfl := hs1.uniq hs2
  have hc := tokens_count s o hs1
  refine Ev.both ho (Ev.both ho' (Ev.pos rfl (Ev.pos rfl (Ev.both (same_ev true _ _ rfl (by omega) fun i hi => ⟨rfl, rfl, rfl, fun _ => rfl⟩) (Ev.done fun _ => rfl)))))
end Go.Proofs.YtifhmdlgjojodaaDoor.Lex
namespace Go.Proofs.YtifhmdlgjojodaaDoor.Pure
theorem LexerReads : Go.Proofs.YtifhmdlgjojodaaDoor.SLexerReads.Pure := Lex.reads
end Go.Proofs.YtifhmdlgjojodaaDoor.Pure
end
