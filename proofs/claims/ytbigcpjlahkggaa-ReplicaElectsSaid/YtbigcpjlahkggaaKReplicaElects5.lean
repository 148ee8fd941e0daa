import Derived.Test.YtbigcpjlahkggaaKReplicaElects4
import Derived.Lib.SlBytesConst
set_option linter.unusedVariables false
set_option linter.unusedSimpArgs false
namespace Go.Proofs.YtbigcpjlahkggaaW.PrintMore
open Go.RowKit Go.Proofs.YtbigcpjlahkggaaW.PrintWords Go.Proofs.YtbigcpjlahkggaaW.PrintLast
theorem cell_marked {w w1 : World} {g : Nat} {cur : Array Value} {e : TypeId} {f1 f2 : Nat × Nat} (h1 : w.heap[g]? = some (.cells cur e f1)) (h2 : w1.heap[g]? = some (.cells cur e f2)) (o : Nat) : w1.cell? ⟨g, o, none⟩ = w.cell? ⟨g, o, none⟩ := by
  simp [World.cell?, h1, h2]
theorem run_convert_marked {P : Program} (w : World) (t e : TypeId) (g n c : Nat) (cur : Array Value) (ht : P.underlying t = some (.slice e)) (he : P.underlying e = some (.int .u8)) (hb : w.heap[g]? = some (.cells cur e (0, 0))) :
    ∃ w1, (convert t t (.slice (some ⟨g, 0, none⟩) n c)).run P w = .ok (.slice (some ⟨g, 0, none⟩) n c) w1 ∧ w.grownBy w1 (some g) ∧ ∃ f, w1.heap[g]? = some (.cells cur e f) := by
  have hsh : w.shape? g = some (e, cur.size) := by
    unfold World.shape?
    rw [hb]
  have hlt : g < w.heap.size := (Array.getElem?_eq_some_iff.1 hb).1
  refine ⟨w.freeze ⟨g, cur.size, none⟩ 1, ?_, ?_, ?_⟩
  · simp [convert, run_underlying ht, run_underlying he, markStringish, hsh]
  · unfold World.freeze
    rw [if_neg (by decide)]
    refine ⟨rfl, rfl, rfl, by simp, fun k hk hne => ?_⟩
    have : g ≠ k := fun e => hne (by rw [e])
    simp [Array.getElem?_modify, this]
  · unfold World.freeze
    rw [if_neg (by decide)]
    simp only [Array.getElem?_modify, if_true, hb, Option.map_some]
    exact ⟨_, rfl⟩
section
variable {P : Program} {ops : Array Oper} {Q : Exit → Act → World → Prop}
theorem convLit_ {rest : List Oper} {oi : Oper} {a : Act} {w : World} (N : Option Tmp) (hd : oi.dst = N) (hg : oi.guard = none) {t e : TypeId} {s : Operand} (hop : oi.op = .convert t t s) (ht : P.underlying t = some (.slice e)) (he : P.underlying e = some (.int .u8))
    {v : Value} (hs : a.eval s = v) {xs : List Int} {base : Nat} {ok : Nat → Prop} (hR : (Kd.int .u8).R e w base ok v xs) (hne : v ≠ .slice none 0 0)
    (h : ∀ w1, w.grownBy w1 v.ownBlock → Kd.V (Kd.int .u8) e w1 base (fun k => some k = v.ownBlock) v xs → wpList P ops Q rest (a.put N v) w1) : wpList P ops Q (oi :: rest) a w := by
  refine wpList_plain hg fun K hK => ?_
  have ho := Kd.own_of_R hR
  obtain ⟨A, c, hv, hl, hC⟩ := Kd.R_reads hR
  rcases ho.2 with ⟨rfl, _⟩ | ⟨g, cap, cur, rfl, hgb, hh, hn, hcap, hcs, hcur⟩
  · exact absurd rfl hne
  · injection hv with hA _ hc
    subst hA
    obtain ⟨w1, hrun0, hgrow, f, hf⟩ := run_convert_marked w t e g xs.length cap cur ht he hh
    have hrun : (execOp a.eval oi).run P w = .ok (.value (.slice (some ⟨g, 0, none⟩) xs.length cap)) w1 := by
      unfold execOp
      simp [hop, hs, hrun0]
    unfold Oper.wp
    rw [hrun]
    have hk : wpList P ops Q rest (a.put N (.slice (some ⟨g, 0, none⟩) xs.length cap)) w1 := by
      refine h w1 hgrow ⟨_, _, rfl, hn, ?_⟩
      intro W' hW
      have hlt : g < w1.heap.size := (Array.getElem?_eq_some_iff.1 hf).1
      have hW' : W'.heap[g]? = some (.cells cur e f) := (hW g rfl hlt).trans hf
      refine ⟨hC.1, hC.2.1, fun hp => ?_⟩
      obtain ⟨ad, e1, hcells⟩ := hC.2.2 hp
      cases e1
      refine ⟨_, rfl, fun j p hj => ?_⟩
      obtain ⟨cs, h1, h2, h3⟩ := hcells j p hj
      refine ⟨cs, h1, h2, fun i u hu => ?_⟩
      have := h3 i u hu
      rw [show (⟨g, 0, none⟩ : Addr).add (j * (Kd.int .u8).sz + i) = ⟨g, j * (Kd.int .u8).sz + i, none⟩ from by unfold Addr.add; split <;> simp_all] at this ⊢
      rw [cell_marked hh hW']
      exact this
    subst hd
    exact hK _ _ hk
end
end Go.Proofs.YtbigcpjlahkggaaW.PrintMore
