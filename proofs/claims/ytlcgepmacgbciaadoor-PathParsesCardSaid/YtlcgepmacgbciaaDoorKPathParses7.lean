import Derived.Test.YtlcgepmacgbciaaDoorKPathParses6
set_option linter.unusedVariables false
set_option linter.unusedSimpArgs false
namespace Go.Proofs.YtlcgepmacgbciaaDoor.Pth
open Go.RowKit Go.Proofs.YtlcgepmacgbciaaDoor.Q Go.Proofs.YtlcgepmacgbciaaDoorW.PrintWords Go.Proofs.YtlcgepmacgbciaaDoorW.PrintMore Go.Proofs.YtlcgepmacgbciaaDoorW.EvMore
theorem cat_small {l : B} (h : (parseS false l).2 = 0) : (cat ((parseS false l).1)).length ≤ 200 := by
  rw [parseS_cat h]
  obtain ⟨r, _, e2, _⟩ := parseS_ok h
  exact e2
theorem parses : SPathParses.Pure := by
  intro s hs
  suffices h : Ev (fun k => tapearchivelaw19_PathParses.f k s) true from Ev.get h
  unfold tapearchivelaw19_PathParses.f
  refine Ev.bindS (few_f s) ?_
  by_cases h : s.size ≤ 500
  · rw [decide_eq_true h]
    have hlen : (outS (parseS false (bs s))).1.length ≤ 8 := by
      by_cases h0 : (parseS false (bs s)).2 = 0
      · obtain ⟨r, _, _, e3, _, _, e6⟩ := parseS_ok h0
        unfold outS
        rw [List.length_map, e3]
        exact e6
      · unfold outS
        rw [parseS_none h0]
        simp
    refine Ev.pos rfl (Ev.both (Parse_ev s) (Ev.both (rParse_ev s) (Ev.pos rfl (Ev.both (same_ev _ _ (by omega)) (Ev.pos (decide_eq_true rfl) (Ev.both (Valid_ev s) (Ev.pos ?_ (Ev.both (Pattern_ev s) (Ev.both (rPattern_ev s) (Ev.pos (beq_self_eq_true _) ?_))))))))))
    · exact beq_self_eq_true _
    · by_cases h0 : (parseS false (bs s)).2 = 0
      · refine Ev.pos h0 ?_
        have e : (outS (parseS false (bs s))).1.map bs = (parseS false (bs s)).1 := map_bs_mk _
        have ht := Text_ev (outS (parseS false (bs s))).1 (by omega) (by rw [e]; have := cat_small h0; omega)
        rw [e, textS_parse h0, mk_of_bs] at ht
        exact Ev.both ht (Ev.pos rfl (Ev.both awake_ev (Ev.done fun _ => rfl)))
      · exact Ev.neg h0 (Ev.both awake_ev (Ev.done fun _ => rfl))
  · rw [decide_eq_false h]
    exact Ev.neg (by simp) (Ev.both awake_ev (Ev.done fun _ => rfl))
end Go.Proofs.YtlcgepmacgbciaaDoor.Pth
namespace Go.Proofs.YtlcgepmacgbciaaDoor.Pure
theorem PathParses : Go.Proofs.YtlcgepmacgbciaaDoor.SPathParses.Pure := Pth.parses
end Go.Proofs.YtlcgepmacgbciaaDoor.Pure
