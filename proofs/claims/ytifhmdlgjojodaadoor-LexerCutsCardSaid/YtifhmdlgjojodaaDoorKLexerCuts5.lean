import Derived.Test.YtifhmdlgjojodaaDoorKLexerCuts4
set_option linter.unusedVariables false
set_option linter.unusedSimpArgs false
namespace Go.Proofs.YtifhmdlgjojodaaDoor.Q
open Go.RowKit Go.Proofs.YtifhmdlgjojodaaDoorW.PrintWords Go.Proofs.YtifhmdlgjojodaaDoorW.PrintLast Go.Proofs.YtifhmdlgjojodaaDoorW.PrintMore
attribute [local go_sem] max2_int min2_int max_two min_two max_three min_three max_four min_four
attribute [local go_sem ↓] isSome_setCell
set_option linter.unusedVariables false
set_option linter.unusedSimpArgs false
def strings_Join.f (l0 : List ByteArray) (a1 : ByteArray) : Option ByteArray :=
  if l0.length ≤ 140737488355328 ∧ (Lib.join (l0.map (·.data.toList)) a1.data.toList).length ≤ 140737488355328 then some ⟨(Lib.join (l0.map (·.data.toList)) a1.data.toList).toArray⟩ else none
theorem addr_flat {w : World} {a : Addr} {v : Value} (h : w.cell? (a.add 0) = some v) : ∃ b o, a = ⟨b, o, none⟩ := by
  obtain ⟨b, o, spot⟩ := a
  have hspot : spot = none := by simpa [Addr.add] using World.cell?_spot h
  subst hspot
  exact ⟨b, o, rfl⟩
theorem strings_cells {w : World} {A : Option Addr} {xs : List ByteArray} (h : Kd.C Kd.string w A xs.length xs) (hp : 0 < xs.length) : ∃ b o, A = some ⟨b, o, none⟩ ∧ b < w.heap.size ∧ ∀ (j : Nat) x, xs[j]? = some x → w.cell? ⟨b, o + j, none⟩ = some (.string x) := by
  obtain ⟨ad, e, hc⟩ := h.2.2 hp
  have hall : ∀ (j : Nat) x, xs[j]? = some x → w.cell? (ad.add j) = some (.string x) := by
    intro j x hx
    obtain ⟨c, hl, hk, hcell⟩ := hc j x hx
    obtain rfl : c = [.string x] := hk
    have := hcell 0 (.string x) rfl
    rw [show Kd.string.sz = 1 from rfl, Nat.mul_one, Nat.add_zero] at this
    exact this
  have h0 := hall 0 xs[0] (List.getElem?_eq_getElem hp)
  obtain ⟨b, o, rfl⟩ := addr_flat h0
  refine ⟨b, o, e, World.block_lt_of_cell? w _ h0, fun j x hx => ?_⟩
  have := hall j x hx
  rw [show (⟨b, o, none⟩ : Addr).add j = ⟨b, o + j, none⟩ from by unfold Addr.add; split <;> simp_all] at this
  exact this
theorem strings_Join.calls (A0 : Option Addr) (c0 : Nat) (l0 : List ByteArray) (a1 : ByteArray) (r : ByteArray) (w : World) (hr0 : Kd.C Kd.string w A0 l0.length l0) (hc0 : l0.length ≤ c0) (h : strings_Join.f l0 a1 = some r) :
    Calls Tryd.prog 27 #[.slice A0 l0.length c0, .string a1] w fun e w' => e = .returned (.string r) ∧ Below w.heap.size w w' := by
  unfold strings_Join.f at h
  split at h
  · rename_i hb
    obtain rfl := Option.some.inj h
    cases l0 with
    | nil => exact (Tryd.strings_Join_none A0 c0 a1 w).mono fun e w' ⟨he, hw⟩ => ⟨by rw [he]; simp [Lib.join], hw ▸ Below.refl _ _⟩
    | cons x xs =>
      obtain ⟨b, o, rfl, hlt, hcells⟩ := strings_cells hr0 (by simp)
      exact Tryd.strings_Join b o c0 (x :: xs) a1 w hcells hlt hb.1 hc0 hb.2
  · cases h
end Go.Proofs.YtifhmdlgjojodaaDoor.Q
