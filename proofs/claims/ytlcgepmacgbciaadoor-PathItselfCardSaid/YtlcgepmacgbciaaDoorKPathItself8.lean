import Derived.Test.YtlcgepmacgbciaaDoorKPathItself7
set_option linter.unusedVariables false
set_option linter.unusedSimpArgs false
namespace Go.Proofs.YtlcgepmacgbciaaDoor.Pth
open Go.RowKit Go.Proofs.YtlcgepmacgbciaaDoor.Q Go.Proofs.YtlcgepmacgbciaaDoorW.PrintWords Go.Proofs.YtlcgepmacgbciaaDoorW.PrintMore Go.Proofs.YtlcgepmacgbciaaDoorW.EvMore
theorem itself : SPathItself.Pure := by
  intro a b ha hb
  suffices h : Ev (fun k => tapearchivelaw19_PathItself.f k a b) true from Ev.get h
  unfold tapearchivelaw19_PathItself.f
  have out : Ev (fun k => tapearchivelaw19_PathItself.j0 k a b true) true := by
    refine Ev.next (fun k => by rw [tapearchivelaw19_PathItself.j0]) (Ev.pos rfl (Ev.both awake_ev ?_))
    exact Ev.done fun _ => rfl
  refine Ev.bindS (few_f a) ?_
  by_cases h1 : a.size ≤ 500
  · rw [decide_eq_true h1]
    refine Ev.pos rfl (Ev.bindS (few_f b) ?_)
    by_cases h2 : b.size ≤ 500
    · rw [decide_eq_true h2]
      refine Ev.pos rfl (Ev.both (rValid_ev a) ?_)
      by_cases h3 : (parseS false (bs a)).2 = 0
      · rw [decide_eq_true h3]
        refine Ev.pos rfl (Ev.both (rValid_ev b) ?_)
        by_cases h4 : (parseS false (bs b)).2 = 0
        · rw [decide_eq_true h4]
          refine Ev.next (fun k => by rw [tapearchivelaw19_PathItself.j0]) (Ev.neg (by simp) (Ev.both (Pattern_ev a) ?_))
          rw [parseS_mono h3, decide_eq_true h3]
          refine Ev.pos rfl (Ev.both (Match_ev a a) ?_)
          rw [match_self h3 h3]
          refine Ev.pos (beq_self_eq_true _) (Ev.both (Match_ev a b) ?_)
          rw [match_self h3 h4, toList_bs, toList_bs]
          refine Ev.pos (beq_self_eq_true _) (Ev.both (Match_ev _ b) ?_)
          rw [show bs (⟨#[47, 42, 42]⟩ : ByteArray) = [47, 42, 42] from rfl, match_deepAll h4]
          refine Ev.pos rfl (Ev.both awake_ev ?_)
          exact Ev.done fun _ => rfl
        · rw [decide_eq_false h4]
          exact out
      · rw [decide_eq_false h3]
        exact Ev.neg (by simp) out
    · rw [decide_eq_false h2]
      exact Ev.neg (by simp) out
  · rw [decide_eq_false h1]
    exact Ev.neg (by simp) out
end Go.Proofs.YtlcgepmacgbciaaDoor.Pth
namespace Go.Proofs.YtlcgepmacgbciaaDoor.Pure
theorem PathItself : Go.Proofs.YtlcgepmacgbciaaDoor.SPathItself.Pure := Pth.itself
end Go.Proofs.YtlcgepmacgbciaaDoor.Pure
