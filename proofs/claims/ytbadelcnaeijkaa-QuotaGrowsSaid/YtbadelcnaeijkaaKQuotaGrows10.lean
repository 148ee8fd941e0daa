import Derived.Test.YtbadelcnaeijkaaKQuotaGrows9
import Derived.Sort.Walk0
set_option linter.unusedVariables false
set_option linter.unusedSimpArgs false
section
namespace Go.Proofs.Ytbadelcnaeijkaa.SQuotaGrows
open Go.RowKit Go.Proofs.Ytbadelcnaeijkaa.Q Go.Proofs.YtbadelcnaeijkaaW.PrintWords Go.Proofs.YtbadelcnaeijkaaW.PrintLast Go.Proofs.YtbadelcnaeijkaaW.Opens Go.Proofs.YtbadelcnaeijkaaW
set_option linter.unusedVariables false
def Wf_t144 (x : S145) : Prop := (Lit.int .i64 x.f0).wf = true ∧ (Lit.int .i64 x.f1).wf = true ∧ (Lit.int .i64 x.f2).wf = true ∧ (Lit.int .i64 x.f3).wf = true
theorem open_t145 (n : Nat) : OpensN Try.prog n 145 k145 Wf_t144 :=
  Opens.opens_le (Opens.opens_struct (n := n) Try.underlying145 (by kernel_rfl) (fun y => ⟨⟨y.1, y.2.1, y.2.2.1, y.2.2.2⟩, rfl⟩) (Opens.opensF_cons rfl (by kernel_rfl) (Opens.opens_int n Try.underlying3) (Opens.opensF_cons rfl (by kernel_rfl) (Opens.opens_int n Try.underlying3) (Opens.opensF_cons rfl (by kernel_rfl) (Opens.opens_int n Try.underlying3) (Opens.opensF_one rfl (by kernel_rfl) (Opens.opens_int n Try.underlying3)))))) (Nat.le_succ n)
def Wf_t65 (x : S66) : Prop := (Lit.int .i64 x.f0).wf = true ∧ (Lit.int .i64 x.f1).wf = true ∧ x.f2.size ≤ 140737488351232 ∧ x.f3.size ≤ 140737488351232 ∧ x.f4.size ≤ 140737488351232 ∧ (Lit.int .i64 x.f5).wf = true ∧ (Lit.int .u32 x.f6).wf = true ∧ (Lit.int .u64 x.f7).wf = true ∧ (Lit.int .i64 x.f8).wf = true ∧ (Lit.int .i64 x.f9).wf = true ∧ (x.f10.length ≤ maxLen ∧ x.f10.length * 32 ≤ 140737488351232 ∧ ∀ y ∈ x.f10, Wf_t144 y)
theorem open_t66 (n : Nat) : OpensN Try.prog n 66 k66 Wf_t65 :=
  Opens.opens_le (Opens.opens_struct (n := n) Try.underlying66 (by kernel_rfl) (fun y => ⟨⟨y.1, y.2.1, y.2.2.1, y.2.2.2.1, y.2.2.2.2.1, y.2.2.2.2.2.1, y.2.2.2.2.2.2.1, y.2.2.2.2.2.2.2.1, y.2.2.2.2.2.2.2.2.1, y.2.2.2.2.2.2.2.2.2.1, y.2.2.2.2.2.2.2.2.2.2⟩, rfl⟩) (Opens.opensF_cons rfl (by kernel_rfl) (Opens.opens_int n Try.underlying3) (Opens.opensF_cons rfl (by kernel_rfl) (Opens.opens_int n Try.underlying3) (Opens.opensF_cons rfl (by kernel_rfl) (Opens.opens_string n Try.underlying9) (Opens.opensF_cons rfl (by kernel_rfl) (Opens.opens_string n Try.underlying9) (Opens.opensF_cons rfl (by kernel_rfl) (Opens.opens_string n Try.underlying9) (Opens.opensF_cons rfl (by kernel_rfl) (Opens.opens_int n Try.underlying3) (Opens.opensF_cons rfl (by kernel_rfl) (Opens.opens_int n Try.underlying62) (Opens.opensF_cons rfl (by kernel_rfl) (Opens.opens_int n Try.underlying63) (Opens.opensF_cons rfl (by kernel_rfl) (Opens.opens_int n Try.underlying3) (Opens.opensF_cons rfl (by kernel_rfl) (Opens.opens_int n Try.underlying3) (Opens.opensF_one rfl (by kernel_rfl) (Opens.opens_le (Opens.opens_slice (n := n) (B := 32) Try.underlying64 (by kernel_rfl) (by kernel_rfl) (open_t145 n)) (Nat.le_succ n)))))))))))))) (Nat.le_succ n)
def Wf_t147 (x : S148) : Prop := (Lit.int .i64 x.f0).wf = true ∧ (Lit.int .i64 x.f1).wf = true ∧ (Lit.int .i64 x.f2).wf = true ∧ (Lit.int .i64 x.f3).wf = true ∧ (Lit.int .u32 x.f4).wf = true
theorem open_t148 (n : Nat) : OpensN Try.prog n 148 k148 Wf_t147 :=
  Opens.opens_le (Opens.opens_struct (n := n) Try.underlying148 (by kernel_rfl) (fun y => ⟨⟨y.1, y.2.1, y.2.2.1, y.2.2.2.1, y.2.2.2.2⟩, rfl⟩) (Opens.opensF_cons rfl (by kernel_rfl) (Opens.opens_int n Try.underlying3) (Opens.opensF_cons rfl (by kernel_rfl) (Opens.opens_int n Try.underlying3) (Opens.opensF_cons rfl (by kernel_rfl) (Opens.opens_int n Try.underlying3) (Opens.opensF_cons rfl (by kernel_rfl) (Opens.opens_int n Try.underlying3) (Opens.opensF_one rfl (by kernel_rfl) (Opens.opens_int n Try.underlying62))))))) (Nat.le_succ n)
def Wf_t149 (x : S150) : Prop := x.f0.size ≤ 140737488351232 ∧ (Lit.int .i64 x.f1).wf = true ∧ (Lit.int .i64 x.f2).wf = true
theorem open_t150 (n : Nat) : OpensN Try.prog n 150 k150 Wf_t149 :=
  Opens.opens_le (Opens.opens_struct (n := n) Try.underlying150 (by kernel_rfl) (fun y => ⟨⟨y.1, y.2.1, y.2.2⟩, rfl⟩) (Opens.opensF_cons rfl (by kernel_rfl) (Opens.opens_string n Try.underlying9) (Opens.opensF_cons rfl (by kernel_rfl) (Opens.opens_int n Try.underlying3) (Opens.opensF_one rfl (by kernel_rfl) (Opens.opens_int n Try.underlying3))))) (Nat.le_succ n)
def Wf_t132 (x : S133) : Prop := (Lit.int .i64 x.f0).wf = true ∧ (Lit.int .i64 x.f1).wf = true ∧ (Lit.int .i64 x.f2).wf = true ∧ (Lit.int .i64 x.f3).wf = true ∧ (Lit.int .i64 x.f4).wf = true ∧ (Lit.int .i64 x.f5).wf = true ∧ (Lit.int .i64 x.f6).wf = true ∧ (Lit.int .i64 x.f7).wf = true ∧ (Lit.int .u32 x.f8).wf = true ∧ (x.f9.length ≤ maxLen ∧ x.f9.length * 40 ≤ 140737488351232 ∧ ∀ y ∈ x.f9, Wf_t147 y) ∧ (x.f10.length ≤ maxLen ∧ x.f10.length * 32 ≤ 140737488351232 ∧ ∀ y ∈ x.f10, Wf_t149 y)
theorem open_t133 (n : Nat) : OpensN Try.prog n 133 k133 Wf_t132 :=
  Opens.opens_le (Opens.opens_struct (n := n) Try.underlying133 (by kernel_rfl) (fun y => ⟨⟨y.1, y.2.1, y.2.2.1, y.2.2.2.1, y.2.2.2.2.1, y.2.2.2.2.2.1, y.2.2.2.2.2.2.1, y.2.2.2.2.2.2.2.1, y.2.2.2.2.2.2.2.2.1, y.2.2.2.2.2.2.2.2.2.1, y.2.2.2.2.2.2.2.2.2.2⟩, rfl⟩) (Opens.opensF_cons rfl (by kernel_rfl) (Opens.opens_int n Try.underlying3) (Opens.opensF_cons rfl (by kernel_rfl) (Opens.opens_int n Try.underlying3) (Opens.opensF_cons rfl (by kernel_rfl) (Opens.opens_int n Try.underlying3) (Opens.opensF_cons rfl (by kernel_rfl) (Opens.opens_int n Try.underlying3) (Opens.opensF_cons rfl (by kernel_rfl) (Opens.opens_int n Try.underlying3) (Opens.opensF_cons rfl (by kernel_rfl) (Opens.opens_int n Try.underlying3) (Opens.opensF_cons rfl (by kernel_rfl) (Opens.opens_int n Try.underlying3) (Opens.opensF_cons rfl (by kernel_rfl) (Opens.opens_int n Try.underlying3) (Opens.opensF_cons rfl (by kernel_rfl) (Opens.opens_int n Try.underlying62) (Opens.opensF_cons rfl (by kernel_rfl) (Opens.opens_le (Opens.opens_slice (n := n) (B := 40) Try.underlying130 (by kernel_rfl) (by kernel_rfl) (open_t148 n)) (Nat.le_succ n)) (Opens.opensF_one rfl (by kernel_rfl) (Opens.opens_le (Opens.opens_slice (n := n) (B := 32) Try.underlying131 (by kernel_rfl) (by kernel_rfl) (open_t150 n)) (Nat.le_succ n)))))))))))))) (Nat.le_succ n)
def Wf_t134 (x : S135) : Prop := (Lit.int .i64 x.f0).wf = true ∧ (Lit.int .i64 x.f1).wf = true ∧ (Lit.int .i64 x.f2).wf = true ∧ (x.f3.length ≤ maxLen ∧ x.f3.length * 8 ≤ 140737488351232 ∧ ∀ y ∈ x.f3, (Lit.int .i64 y).wf = true)
theorem open_t135 (n : Nat) : OpensN Try.prog n 135 k135 Wf_t134 :=
  Opens.opens_le (Opens.opens_struct (n := n) Try.underlying135 (by kernel_rfl) (fun y => ⟨⟨y.1, y.2.1, y.2.2.1, y.2.2.2⟩, rfl⟩) (Opens.opensF_cons rfl (by kernel_rfl) (Opens.opens_int n Try.underlying3) (Opens.opensF_cons rfl (by kernel_rfl) (Opens.opens_int n Try.underlying3) (Opens.opensF_cons rfl (by kernel_rfl) (Opens.opens_int n Try.underlying3) (Opens.opensF_one rfl (by kernel_rfl) (Opens.opens_le (Opens.opens_slice (n := n) (B := 8) Try.underlying33 (by kernel_rfl) (by kernel_rfl) (Opens.opens_int n Try.underlying3)) (Nat.le_succ n))))))) (Nat.le_succ n)
def Wf_t136 (x : S137) : Prop := x.f0.size ≤ 140737488351232 ∧ x.f1.size ≤ 140737488351232 ∧ (Lit.int .i64 x.f2).wf = true ∧ (Lit.int .i64 x.f3).wf = true ∧ (Lit.int .i64 x.f4).wf = true
theorem open_t137 (n : Nat) : OpensN Try.prog n 137 k137 Wf_t136 :=
  Opens.opens_le (Opens.opens_struct (n := n) Try.underlying137 (by kernel_rfl) (fun y => ⟨⟨y.1, y.2.1, y.2.2.1, y.2.2.2.1, y.2.2.2.2⟩, rfl⟩) (Opens.opensF_cons rfl (by kernel_rfl) (Opens.opens_string n Try.underlying9) (Opens.opensF_cons rfl (by kernel_rfl) (Opens.opens_string n Try.underlying9) (Opens.opensF_cons rfl (by kernel_rfl) (Opens.opens_int n Try.underlying3) (Opens.opensF_cons rfl (by kernel_rfl) (Opens.opens_int n Try.underlying3) (Opens.opensF_one rfl (by kernel_rfl) (Opens.opens_int n Try.underlying3))))))) (Nat.le_succ n)
def Wf_t138 (x : S139) : Prop := x.f0.size ≤ 140737488351232 ∧ x.f1.size ≤ 140737488351232 ∧ (Lit.int .i64 x.f2).wf = true ∧ (Lit.int .i64 x.f3).wf = true ∧ (Lit.int .i64 x.f4).wf = true ∧ (Lit.int .i64 x.f5).wf = true
theorem open_t139 (n : Nat) : OpensN Try.prog n 139 k139 Wf_t138 :=
  Opens.opens_le (Opens.opens_struct (n := n) Try.underlying139 (by kernel_rfl) (fun y => ⟨⟨y.1, y.2.1, y.2.2.1, y.2.2.2.1, y.2.2.2.2.1, y.2.2.2.2.2⟩, rfl⟩) (Opens.opensF_cons rfl (by kernel_rfl) (Opens.opens_string n Try.underlying9) (Opens.opensF_cons rfl (by kernel_rfl) (Opens.opens_string n Try.underlying9) (Opens.opensF_cons rfl (by kernel_rfl) (Opens.opens_int n Try.underlying3) (Opens.opensF_cons rfl (by kernel_rfl) (Opens.opens_int n Try.underlying3) (Opens.opensF_cons rfl (by kernel_rfl) (Opens.opens_int n Try.underlying3) (Opens.opensF_one rfl (by kernel_rfl) (Opens.opens_int n Try.underlying3)))))))) (Nat.le_succ n)
def Wf_t140 (x : S141) : Prop := x.f0.size ≤ 140737488351232 ∧ x.f1.size ≤ 140737488351232
theorem open_t141 (n : Nat) : OpensN Try.prog n 141 k141 Wf_t140 :=
  Opens.opens_le (Opens.opens_struct (n := n) Try.underlying141 (by kernel_rfl) (fun y => ⟨⟨y.1, y.2⟩, rfl⟩) (Opens.opensF_cons rfl (by kernel_rfl) (Opens.opens_string n Try.underlying9) (Opens.opensF_one rfl (by kernel_rfl) (Opens.opens_string n Try.underlying9)))) (Nat.le_succ n)
def Wf_t54 (x : S55) : Prop := x.f0.size ≤ 140737488351232 ∧ (Lit.int .i64 x.f1).wf = true
theorem open_t55 (n : Nat) : OpensN Try.prog n 55 k55 Wf_t54 :=
  Opens.opens_le (Opens.opens_struct (n := n) Try.underlying55 (by kernel_rfl) (fun y => ⟨⟨y.1, y.2⟩, rfl⟩) (Opens.opensF_cons rfl (by kernel_rfl) (Opens.opens_string n Try.underlying9) (Opens.opensF_one rfl (by kernel_rfl) (Opens.opens_int n Try.underlying3)))) (Nat.le_succ n)
def Wf_t142 (x : S143) : Prop := (Lit.int .i64 x.f0).wf = true ∧ (Lit.int .i64 x.f1).wf = true ∧ x.f2.size ≤ 140737488351232 ∧ (Lit.int .u64 x.f3).wf = true ∧ (Lit.int .i64 x.f4).wf = true ∧ (x.f5.length ≤ maxLen ∧ x.f5.length * 32 ≤ 140737488351232 ∧ ∀ y ∈ x.f5, Wf_t149 y)
theorem open_t143 (n : Nat) : OpensN Try.prog n 143 k143 Wf_t142 :=
  Opens.opens_le (Opens.opens_struct (n := n) Try.underlying143 (by kernel_rfl) (fun y => ⟨⟨y.1, y.2.1, y.2.2.1, y.2.2.2.1, y.2.2.2.2.1, y.2.2.2.2.2⟩, rfl⟩) (Opens.opensF_cons rfl (by kernel_rfl) (Opens.opens_int n Try.underlying3) (Opens.opensF_cons rfl (by kernel_rfl) (Opens.opens_int n Try.underlying3) (Opens.opensF_cons rfl (by kernel_rfl) (Opens.opens_string n Try.underlying9) (Opens.opensF_cons rfl (by kernel_rfl) (Opens.opens_int n Try.underlying63) (Opens.opensF_cons rfl (by kernel_rfl) (Opens.opens_int n Try.underlying3) (Opens.opensF_one rfl (by kernel_rfl) (Opens.opens_le (Opens.opens_slice (n := n) (B := 32) Try.underlying131 (by kernel_rfl) (by kernel_rfl) (open_t150 n)) (Nat.le_succ n))))))))) (Nat.le_succ n)
def Wf_t30 (x : S31) : Prop := (Lit.int .i64 x.f0).wf = true ∧ (Lit.int .i64 x.f1).wf = true ∧ (Lit.int .i64 x.f2).wf = true ∧ (x.f3.length ≤ maxLen ∧ x.f3.length * 128 ≤ 140737488351232 ∧ ∀ y ∈ x.f3, Wf_t65 y) ∧ (x.f4.length ≤ maxLen ∧ x.f4.length * 120 ≤ 140737488351232 ∧ ∀ y ∈ x.f4, Wf_t132 y) ∧ (x.f5.length ≤ maxLen ∧ x.f5.length * 48 ≤ 140737488351232 ∧ ∀ y ∈ x.f5, Wf_t134 y) ∧ (x.f6.length ≤ maxLen ∧ x.f6.length * 56 ≤ 140737488351232 ∧ ∀ y ∈ x.f6, Wf_t136 y) ∧ (x.f7.length ≤ maxLen ∧ x.f7.length * 64 ≤ 140737488351232 ∧ ∀ y ∈ x.f7, Wf_t138 y) ∧ (x.f8.length ≤ maxLen ∧ x.f8.length * 32 ≤ 140737488351232 ∧ ∀ y ∈ x.f8, Wf_t140 y) ∧ (x.f9.length ≤ maxLen ∧ x.f9.length * 24 ≤ 140737488351232 ∧ ∀ y ∈ x.f9, Wf_t54 y) ∧ (x.f10.length ≤ maxLen ∧ x.f10.length * 72 ≤ 140737488351232 ∧ ∀ y ∈ x.f10, Wf_t142 y)
theorem open_t31 (n : Nat) : OpensN Try.prog n 31 k31 Wf_t30 :=
  Opens.opens_le (Opens.opens_struct (n := n) Try.underlying31 (by kernel_rfl) (fun y => ⟨⟨y.1, y.2.1, y.2.2.1, y.2.2.2.1, y.2.2.2.2.1, y.2.2.2.2.2.1, y.2.2.2.2.2.2.1, y.2.2.2.2.2.2.2.1, y.2.2.2.2.2.2.2.2.1, y.2.2.2.2.2.2.2.2.2.1, y.2.2.2.2.2.2.2.2.2.2⟩, rfl⟩) (Opens.opensF_cons rfl (by kernel_rfl) (Opens.opens_int n Try.underlying3) (Opens.opensF_cons rfl (by kernel_rfl) (Opens.opens_int n Try.underlying3) (Opens.opensF_cons rfl (by kernel_rfl) (Opens.opens_int n Try.underlying3) (Opens.opensF_cons rfl (by kernel_rfl) (Opens.opens_le (Opens.opens_slice (n := n) (B := 128) Try.underlying22 (by kernel_rfl) (by kernel_rfl) (open_t66 n)) (Nat.le_succ n)) (Opens.opensF_cons rfl (by kernel_rfl) (Opens.opens_le (Opens.opens_slice (n := n) (B := 120) Try.underlying23 (by kernel_rfl) (by kernel_rfl) (open_t133 n)) (Nat.le_succ n)) (Opens.opensF_cons rfl (by kernel_rfl) (Opens.opens_le (Opens.opens_slice (n := n) (B := 48) Try.underlying24 (by kernel_rfl) (by kernel_rfl) (open_t135 n)) (Nat.le_succ n)) (Opens.opensF_cons rfl (by kernel_rfl) (Opens.opens_le (Opens.opens_slice (n := n) (B := 56) Try.underlying25 (by kernel_rfl) (by kernel_rfl) (open_t137 n)) (Nat.le_succ n)) (Opens.opensF_cons rfl (by kernel_rfl) (Opens.opens_le (Opens.opens_slice (n := n) (B := 64) Try.underlying26 (by kernel_rfl) (by kernel_rfl) (open_t139 n)) (Nat.le_succ n)) (Opens.opensF_cons rfl (by kernel_rfl) (Opens.opens_le (Opens.opens_slice (n := n) (B := 32) Try.underlying27 (by kernel_rfl) (by kernel_rfl) (open_t141 n)) (Nat.le_succ n)) (Opens.opensF_cons rfl (by kernel_rfl) (Opens.opens_le (Opens.opens_slice (n := n) (B := 24) Try.underlying28 (by kernel_rfl) (by kernel_rfl) (open_t55 n)) (Nat.le_succ n)) (Opens.opensF_one rfl (by kernel_rfl) (Opens.opens_le (Opens.opens_slice (n := n) (B := 72) Try.underlying29 (by kernel_rfl) (by kernel_rfl) (open_t143 n)) (Nat.le_succ n)))))))))))))) (Nat.le_succ n)
def Pure : Prop := ∀ (x0 : S31) (x1 : ByteArray) (x2 : ByteArray) (x3 : Int), Wf_t30 x0 → x1.size ≤ 140737488351232 → x2.size ≤ 140737488351232 → (Lit.int .i64 x3).wf = true → ∃ k, tapearchivelaw32_QuotaGrows.f k x0.f0 x0.f1 x0.f2 x0.f3 x0.f4 x0.f5 x0.f6 x0.f7 x0.f8 x0.f9 x0.f10 x1 x2 x3 = some true
end Go.Proofs.Ytbadelcnaeijkaa.SQuotaGrows
end
section
namespace Go.Proofs.Ytbadelcnaeijkaa.Quo
open Go.RowKit Go.Proofs.Ytbadelcnaeijkaa.Q Go.Proofs.YtbadelcnaeijkaaW.PrintWords Go.Proofs.YtbadelcnaeijkaaW.PrintMore Go.Proofs.YtbadelcnaeijkaaW.EvMore
theorem rdI {l : List Int} {i : Nat} (h : i < l.length) : rd l (i : Int) = l[i] := by
  unfold rd
  rw [Int.toNat_natCast, List.getD_eq_getElem?_getD, List.getElem?_eq_getElem h]
  rfl
theorem rdB {l : List ByteArray} {i : Nat} (h : i < l.length) : rdOf ByteArray.empty l (i : Int) = l[i] := by
  unfold rdOf
  rw [Int.toNat_natCast, List.getD_eq_getElem?_getD, List.getElem?_eq_getElem h]
  rfl
theorem tl_iff (s t : ByteArray) : s.toList = t.toList ↔ s = t := ⟨fun h => bs_inj (by rw [← toList_bs, ← toList_bs, h]), fun h => by rw [h]⟩
section
variable (a0 a1 a2 : Int) (l3 : List S66) (l4 : List S133) (l5 : List S135) (l6 : List S137) (l7 : List S139) (l8 : List S141) (l9 : List S55) (l10 : List S143) (m1 : List ByteArray) (m2 : List Int)
theorem few_f : tapearchivelaw32_few.f a0 a1 a2 l3 l4 l5 l6 l7 l8 l9 l10 = some (a0, a1, a2, l3.take 60, l4, l5, l6, l7, l8, l9.take 60, l10) := by
  unfold tapearchivelaw32_few.f
  by_cases c1 : (l3.length : Int) > 60
  · rw [if_pos c1, if_pos (by omega), Option.bind_some]
    by_cases c2 : (l9.length : Int) > 60
    · rw [if_pos c2, if_pos (by omega)]; try rfl
    · rw [if_neg c2, List.take_of_length_le (l := l9) (by omega)]; try rfl
  · rw [if_neg c1, List.take_of_length_le (l := l3) (by omega)]
    by_cases c2 : (l9.length : Int) > 60
    · rw [if_pos c2, if_pos (by omega)]; try rfl
    · rw [if_neg c2, List.take_of_length_le (l := l9) (by omega)]; try rfl
end
theorem same_ev (l : List Int) (hl : l.length ≤ 1000000) : Ev (fun k => tapearchivelaw32_same.f k l l) true := by
  unfold tapearchivelaw32_same.f
  refine Ev.pos rfl ?_
  have go : ∀ (d i : Nat), i + d = l.length → Ev (fun k => tapearchivelaw32_same.l0 k l l (i : Int)) true := by
    intro d
    induction d with
    | zero =>
      intro i hi
      exact Ev.next (fun k => by rw [tapearchivelaw32_same.l0]) (Ev.neg (by omega) (Ev.done fun _ => rfl))
    | succ d ih =>
      intro i hi
      refine Ev.next (fun k => by rw [tapearchivelaw32_same.l0]) (Ev.pos (by omega) (Ev.pos (by omega) (Ev.pos (by omega) (Ev.pos rfl ?_))))
      rw [wrap_in (by omega) (by omega), cast_succ]
      exact ih (i + 1) (by omega)
  exact go l.length 0 (by omega)
theorem awake_ev : Ev (fun k => tapearchivelaw32_awake.f k) true := by
  unfold tapearchivelaw32_awake.f
  refine Ev.bindS rfl (Ev.bindS rfl (Ev.bindS (a := (1, 20)) (by kernel_rfl) (Ev.bindS (a := ([4, 3, 3], 0)) (by kernel_rfl) (Ev.bindS (a := (100, true)) (by kernel_rfl) (Ev.bindS (a := 60) (by kernel_rfl) ?_)))))
  refine Ev.pos rfl (Ev.pos rfl (Ev.pos rfl (Ev.pos rfl (Ev.both (same_ev [4, 3, 3] (by simp)) (Ev.pos rfl (Ev.pos rfl (Ev.done fun _ => rfl)))))))
end Go.Proofs.Ytbadelcnaeijkaa.Quo
end
section
namespace Go.Proofs.Ytbadelcnaeijkaa.Q
open Go.RowKit Go.Proofs.YtbadelcnaeijkaaW.PrintWords Go.Proofs.YtbadelcnaeijkaaW.PrintLast Go.Proofs.YtbadelcnaeijkaaW.PrintMore
attribute [local go_sem] max2_int min2_int max_two min_two max_three min_three max_four min_four
attribute [local go_sem ↓] isSome_setCell
attribute [local go_sem] string_gtr
set_option linter.unusedVariables false
set_option linter.unusedSimpArgs false
end Go.Proofs.Ytbadelcnaeijkaa.Q
end
section
namespace Go.Proofs.Ytbadelcnaeijkaa.Q
open Go.RowKit Go.Proofs.YtbadelcnaeijkaaW.PrintWords Go.Proofs.YtbadelcnaeijkaaW.PrintLast Go.Proofs.YtbadelcnaeijkaaW.PrintMore
attribute [local go_sem] max2_int min2_int max_two min_two max_three min_three max_four min_four
attribute [local go_sem ↓] isSome_setCell
attribute [local go_sem] string_gtr
set_option linter.unusedVariables false
set_option linter.unusedSimpArgs false
end Go.Proofs.Ytbadelcnaeijkaa.Q
end
section
namespace Go.Proofs.Ytbadelcnaeijkaa.Quo
open Go.RowKit Go.Proofs.Ytbadelcnaeijkaa.Q Go.Proofs.YtbadelcnaeijkaaW.PrintWords Go.Proofs.YtbadelcnaeijkaaW.PrintMore Go.Proofs.YtbadelcnaeijkaaW.EvMore
theorem insB_length (s : ByteArray) : ∀ l, (insB s l).length ≤ l.length + 1
  | [] => by simp [insB]
  | x :: xs => by
    unfold insB
    have := insB_length s xs
    split
    · simp; omega
    · split <;> simp
theorem overFold_length (l3 : List S66) (l9 : List S55) : ∀ (l : List S55) (out : List ByteArray), (l.foldl (overStep l3 l9) out).length ≤ out.length + l.length
  | [], out => by simp
  | x :: l, out => by
    rw [List.foldl_cons]
    have h := overFold_length l3 l9 l (overStep l3 l9 out x)
    have h2 : (overStep l3 l9 out x).length ≤ out.length + 1 := by
      unfold overStep
      split
      · exact insB_length _ _
      · omega
    rw [List.length_cons]
    omega
section
variable (a0 a1 a2 : Int) (l3 : List S66) (l4 : List S133) (l5 : List S135) (l6 : List S137) (l7 : List S139) (l8 : List S141) (l9 : List S55) (l10 : List S143)
theorem over_f (h : overOk l3 l9) : quota_Over.f a0 a1 a2 l3 l4 l5 l6 l7 l8 l9 l10 = some (overS l3 l9) := if_pos h
end
end Go.Proofs.Ytbadelcnaeijkaa.Quo
end
section
namespace Go.Proofs.Ytbadelcnaeijkaa.Quo
open Go.RowKit Go.Proofs.Ytbadelcnaeijkaa.Q Go.Proofs.YtbadelcnaeijkaaW.PrintWords Go.Proofs.YtbadelcnaeijkaaW.PrintMore Go.Proofs.YtbadelcnaeijkaaW.EvMore
theorem has_ev (l : List ByteArray) (s : ByteArray) (b : Bool) (hb : b = true ↔ s ∈ l) (hl : l.length ≤ 1000000) : Ev (fun k => tapearchivelaw32_has.f k l s) b := by
  unfold tapearchivelaw32_has.f
  have go : ∀ (d i : Nat), i + d = l.length → (∀ x ∈ l.take i, x ≠ s) → Ev (fun k => tapearchivelaw32_has.l0 k l s (i : Int)) b := by
    intro d
    induction d with
    | zero =>
      intro i hi hn
      rw [List.take_of_length_le (by omega)] at hn
      have : b = false := by
        cases b
        · rfl
        · exact absurd rfl (hn s (hb.1 rfl))
      subst this
      exact Ev.next (fun k => by rw [tapearchivelaw32_has.l0]) (Ev.neg (by omega) (Ev.done fun _ => rfl))
    | succ d ih =>
      intro i hi hn
      have h : i < l.length := by omega
      refine Ev.next (fun k => by rw [tapearchivelaw32_has.l0]) (Ev.pos (by omega) (Ev.pos (by omega) ?_))
      rw [rdB h, wrap_in (by omega) (by omega), cast_succ]
      by_cases e : l[i] = s
      · have : b = true := hb.2 (e ▸ List.getElem_mem h)
        subst this
        exact Ev.pos ((tl_iff _ _).2 e) (Ev.done fun _ => rfl)
      · refine Ev.neg (fun q => e ((tl_iff _ _).1 q)) (ih (i + 1) (by omega) (fun x hx => ?_))
        rw [List.take_succ_eq_append_getElem h] at hx
        rcases List.mem_append.1 hx with hx | hx
        · exact hn x hx
        · rw [List.mem_singleton.1 hx]; exact e
  exact go l.length 0 (by omega) (by simp)
def newF (p : ByteArray × Int) : S66 := ⟨0, 0, (⟨#[]⟩ : ByteArray), p.1, (⟨#[]⟩ : ByteArray), p.2, 0, 0, 0, 0, ([] : List (S145))⟩
theorem used_append (o : ByteArray) (l m : List S66) : used o (l ++ m) = used o l + used o m := by
  unfold used
  rw [List.map_append, List.sum_append]
theorem used_new (o : ByteArray) : ∀ p : List (ByteArray × Int), (∀ x ∈ p, num x.2 = true) → used o (p.map newF) = addS o p
  | [], _ => by simp [used, addS]
  | x :: p, h => by
    have ih := used_new o p (fun y hy => h y (List.mem_cons_of_mem _ hy))
    have e : used o ((x :: p).map newF) = (if x.1 = o ∧ num x.2 = true then x.2 else 0) + used o (p.map newF) := by simp [used, newF]
    have e2 : addS o (x :: p) = (if x.1 = o then x.2 else 0) + addS o p := by simp [addS]
    rw [e, e2, ih]
    by_cases c : x.1 = o
    · rw [if_pos c, if_pos ⟨c, h x List.mem_cons_self⟩]
    · rw [if_neg c, if_neg (fun q => c q.1)]
section
variable (a0 a1 a2 : Int) (l3 : List S66) (l4 : List S133) (l5 : List S135) (l6 : List S137) (l7 : List S139) (l8 : List S141) (l9 : List S55) (l10 : List S143) (m1 : List ByteArray) (m2 : List Int)
theorem added_ev (h3 : l3.length ≤ 1000000) (hm : m1.length = m2.length) (hm1 : m1.length ≤ 1000000) :
    Ev (fun k => tapearchivelaw32_added.f k a0 a1 a2 l3 l4 l5 l6 l7 l8 l9 l10 m1 m2) (a0, a1, a2, l3 ++ (m1.zip m2).map newF, l4, l5, l6, l7, l8, l9, l10) := by
  unfold tapearchivelaw32_added.f
  refine Ev.pos (by simp; omega) ?_
  have go : ∀ (d i : Nat), i + d = m1.length → Ev (fun k => tapearchivelaw32_added.l0 k m1 m2 (l3 ++ ((m1.zip m2).take i).map newF) (i : Int) a0 a1 a2 l3 l4 l5 l6 l7 l8 l9 l10) (a0, a1, a2, l3 ++ (m1.zip m2).map newF, l4, l5, l6, l7, l8, l9, l10) := by
    intro d
    induction d with
    | zero =>
      intro i hi
      refine Ev.next (fun k => by rw [tapearchivelaw32_added.l0]) (Ev.neg (by omega) (Ev.done fun _ => ?_))
      rw [List.take_of_length_le (by rw [List.length_zip]; omega)]
    | succ d ih =>
      intro i hi
      have h : i < m1.length := by omega
      have h2 : i < m2.length := by omega
      have hz : i < (m1.zip m2).length := by rw [List.length_zip]; omega
      refine Ev.next (fun k => by rw [tapearchivelaw32_added.l0]) (Ev.pos (by omega) (Ev.pos (by omega) (Ev.pos (by omega) (Ev.pos ?_ ?_))))
      · rw [List.length_append, List.length_map, List.length_take, List.length_zip]; omega
      · rw [rdB h, rdI h2, wrap_in (by omega) (by omega), cast_succ]
        have := ih (i + 1) (by omega)
        rw [List.take_succ_eq_append_getElem hz, List.map_append, ← List.append_assoc, List.map_singleton, List.getElem_zip] at this
        exact this
  have := go m1.length 0 (by omega)
  simpa using this
end
end Go.Proofs.Ytbadelcnaeijkaa.Quo
end
section
namespace Go.Proofs.Ytbadelcnaeijkaa.Quo
open Go.RowKit Go.Proofs.Ytbadelcnaeijkaa.Q Go.Proofs.YtbadelcnaeijkaaW.PrintWords Go.Proofs.YtbadelcnaeijkaaW.PrintMore Go.Proofs.YtbadelcnaeijkaaW.EvMore
theorem used_f' (l : List S66) (o : ByteArray) (h : usedOk l) (ho : o.size ≤ 140737488351232) : quota_Used.f l o = some (used o l) := if_pos ⟨h, ho⟩
section
variable (a0 a1 a2 : Int) (l3 : List S66) (l4 : List S133) (l5 : List S135) (l6 : List S137) (l7 : List S139) (l8 : List S141) (l9 : List S55) (l10 : List S143) (o p : ByteArray) (n : Int)
theorem grows_true : Ev (fun k => tapearchivelaw32_QuotaGrows.j0 k o p n true a0 a1 a2 l3 l4 l5 l6 l7 l8 l9 l10) true :=
  Ev.next (fun k => by rw [tapearchivelaw32_QuotaGrows.j0]) (Ev.pos rfl (Ev.both awake_ev (Ev.done fun _ => rfl)))
theorem used_one (s : ByteArray) (hn : num n = true) : used s (l3 ++ [newF (o, n)]) = used s l3 + if o = s then n else 0 := by
  rw [used_append]
  have : used s [newF (o, n)] = addS s [(o, n)] := used_new s [(o, n)] (fun x hx => by rw [List.mem_singleton.1 hx]; exact hn)
  rw [this]
  simp [addS]
theorem grows_j1 (hu : usedOk l3) (h3 : l3.length ≤ 60) (h9 : l9.length ≤ 60) (hz9 : ∀ x ∈ l9, x.f0.size ≤ 140737488351232) (ho : o.size ≤ 140737488351232) (b3 : List S66) (hn : num n = true) (b4 : List S133) (b5 : List S135) (b6 : List S137) (b7 : List S139) (b8 : List S141) (b9 : List S55) (b10 : List S143) (q0 q1 q2 : Int) :
    Ev (fun k => tapearchivelaw32_QuotaGrows.j1 k o (used o (l3 ++ [newF (o, n)])) false q0 q1 q2 b3 b4 b5 b6 b7 b8 l9 b10 a0 a1 a2 (l3 ++ [newF (o, n)]) l4 l5 l6 l7 l8 b9 l10) true := by
  have hnl := num_le hn
  have ub := used_bound o l3
  have hu1 : used o (l3 ++ [newF (o, n)]) = used o l3 + n := by rw [used_one l3 o n o hn, if_pos rfl]
  have hU : usedOk (l3 ++ [newF (o, n)]) := by
    refine ⟨by rw [List.length_append]; simp; omega, fun x hx => ?_⟩
    rcases List.mem_append.1 hx with hx | hx
    · exact hu.2 x hx
    · rw [List.mem_singleton.1 hx]; exact ho
  have hov : ∀ v, overOk (l3 ++ [newF (o, n)]) ((⟨o, v⟩ : S55) :: l9) := fun v => ⟨hU, by rw [List.length_cons]; omega, fun x hx => by
    rcases List.mem_cons.1 hx with rfl | hx
    · exact ho
    · exact hz9 x hx⟩
  have hex : ∀ v, exO (l3 ++ [newF (o, n)]) ((⟨o, v⟩ : S55) :: l9) o = decide (v < used o (l3 ++ [newF (o, n)])) := fun v => by
    unfold exO exc
    simp [lim]
  have hwl : ∀ v, (overS (l3 ++ [newF (o, n)]) ((⟨o, v⟩ : S55) :: l9)).length ≤ 1000000 := fun v => by
    have := overFold_length (l3 ++ [newF (o, n)]) ((⟨o, v⟩ : S55) :: l9) ((⟨o, v⟩ : S55) :: l9) []
    rw [overS]
    simp only [List.length_nil, List.length_cons] at this
    omega
  generalize used o (l3 ++ [newF (o, n)]) = N at *
  refine Ev.next (fun k => by rw [tapearchivelaw32_QuotaGrows.j1]) (Ev.neg (by simp) ?_)
  simp only [Option.bind_some]
  refine Ev.pos (by simp; omega) ?_
  rw [List.singleton_append]
  refine Ev.bindS (over_f a0 a1 a2 (l3 ++ [newF (o, n)]) l4 l5 l6 l7 l8 ((⟨o, N⟩ : S55) :: l9) l10 (hov N)) ?_
  refine Ev.both (has_ev _ o false (iff_of_false Bool.false_ne_true (fun h => by rw [mem_overS, hex] at h; simp at h)) (hwl N)) ?_
  refine Ev.neg (by simp) ?_
  refine Ev.pos (by simp only [List.length_cons]; omega) ?_
  rw [wrap_in (by omega) (by omega)]
  have e : ((⟨o, N⟩ : S55) :: l9).set (0 : Int).toNat (⟨(rd_T55 ((⟨o, N⟩ : S55) :: l9) 0).f0, N - 1⟩ : S55) = (⟨o, N - 1⟩ : S55) :: l9 := rfl
  rw [e]
  refine Ev.bindS (over_f a0 a1 a2 (l3 ++ [newF (o, n)]) l4 l5 l6 l7 l8 ((⟨o, N - 1⟩ : S55) :: l9) l10 (hov (N - 1))) ?_
  refine Ev.both (has_ev _ o true ⟨fun _ => by rw [mem_overS, hex]; exact decide_eq_true (by omega), fun _ => rfl⟩ (hwl (N - 1))) ?_
  exact Ev.pos rfl (Ev.both awake_ev (Ev.done fun _ => rfl))
theorem grows_false (hu : usedOk l3) (h3 : l3.length ≤ 60) (h9 : l9.length ≤ 60) (hz9 : ∀ x ∈ l9, x.f0.size ≤ 140737488351232) (ho : o.size ≤ 140737488351232) (hp : p.size ≤ 140737488351232) (hn : num n = true) :
    Ev (fun k => tapearchivelaw32_QuotaGrows.j0 k o p n false a0 a1 a2 l3 l4 l5 l6 l7 l8 l9 l10) true := by
  have hnl := num_le hn
  have ub := used_bound o l3
  have hU : usedOk (l3 ++ [newF (o, n)]) := by
    refine ⟨by rw [List.length_append]; simp; omega, fun x hx => ?_⟩
    rcases List.mem_append.1 hx with hx | hx
    · exact hu.2 x hx
    · rw [List.mem_singleton.1 hx]; exact ho
  have hA := added_ev a0 a1 a2 l3 l4 l5 l6 l7 l8 l9 l10 [o] [n] (by omega) rfl (by simp)
  refine Ev.next (fun k => by rw [tapearchivelaw32_QuotaGrows.j0]) (Ev.neg (by simp) (Ev.both hA ?_))
  refine Ev.bindS (used_f' (l3 ++ [newF (o, n)]) o hU ho) (Ev.bindS (used_f' l3 o hu ho) ?_)
  refine Ev.pos ?_ ?_
  · rw [used_one l3 o n o hn, if_pos rfl]
    exact (wrap_in (by omega) (by omega)).symm
  · by_cases e : p = o
    · refine Ev.pos ((tl_iff _ _).2 e) ?_
      exact grows_j1 a0 a1 a2 l3 l4 l5 l6 l7 l8 l9 l10 o n hu h3 h9 hz9 ho _ hn _ _ _ _ _ _ _ _ _ _
    · refine Ev.neg (fun q => e ((tl_iff _ _).1 q)) ?_
      refine Ev.bindS (used_f' (l3 ++ [newF (o, n)]) p hU hp) (Ev.bindS (used_f' l3 p hu hp) ?_)
      have eb : (used p (l3 ++ [newF (o, n)]) != used p l3) = false := by
        rw [used_one l3 o n p hn, if_neg (fun q => e q.symm), Int.add_zero]
        simp
      rw [eb]
      exact grows_j1 a0 a1 a2 l3 l4 l5 l6 l7 l8 l9 l10 o n hu h3 h9 hz9 ho _ hn _ _ _ _ _ _ _ _ _ _
end
theorem grows : Go.Proofs.Ytbadelcnaeijkaa.SQuotaGrows.Pure := by
  intro x0 x1 x2 x3 hx h1 h2 h3w
  have hu : usedOk (x0.f3.take 60) := ⟨by rw [List.length_take]; omega, fun x hm => (hx.2.2.2.1.2.2 x ((List.take_sublist _ _).subset hm)).2.2.2.1⟩
  have h9 : (x0.f9.take 60).length ≤ 60 := by rw [List.length_take]; omega
  have h3 : (x0.f3.take 60).length ≤ 60 := by rw [List.length_take]; omega
  have hz9 : ∀ x ∈ x0.f9.take 60, x.f0.size ≤ 140737488351232 := fun x hm => (hx.2.2.2.2.2.2.2.2.2.1.2.2 x ((List.take_sublist _ _).subset hm)).1
  refine Ev.get (f := fun k => tapearchivelaw32_QuotaGrows.f k x0.f0 x0.f1 x0.f2 x0.f3 x0.f4 x0.f5 x0.f6 x0.f7 x0.f8 x0.f9 x0.f10 x1 x2 x3) ?_
  unfold tapearchivelaw32_QuotaGrows.f
  refine Ev.bindS (few_f _ _ _ _ _ _ _ _ _ _ _) ?_
  by_cases c : x3 < 0
  · exact Ev.pos c (grows_true _ _ _ _ _ _ _ _ _ _ _ _ _ _)
  · refine Ev.neg c ?_
    by_cases c2 : x3 > 1125899906842624
    · rw [decide_eq_true c2]
      exact grows_true _ _ _ _ _ _ _ _ _ _ _ _ _ _
    · rw [decide_eq_false c2]
      exact grows_false _ _ _ _ _ _ _ _ _ _ _ _ _ _ hu h3 h9 hz9 h1 h2 ((num_iff _).2 ⟨by omega, by omega⟩)
end Go.Proofs.Ytbadelcnaeijkaa.Quo
namespace Go.Proofs.Ytbadelcnaeijkaa.Pure
theorem QuotaGrows : Go.Proofs.Ytbadelcnaeijkaa.SQuotaGrows.Pure := Quo.grows
end Go.Proofs.Ytbadelcnaeijkaa.Pure
end
