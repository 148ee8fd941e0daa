import Derived.Test.YtbadelcnaeijkaaKQuotaAdmits8
set_option linter.unusedVariables false
set_option linter.unusedSimpArgs false
section
namespace Go.Proofs.Ytbadelcnaeijkaa.SQuotaAdmits
open Go.RowKit Go.Proofs.Ytbadelcnaeijkaa.Q Go.Proofs.YtbadelcnaeijkaaW.PrintWords Go.Proofs.YtbadelcnaeijkaaW.PrintLast Go.Proofs.YtbadelcnaeijkaaW.Opens Go.Proofs.YtbadelcnaeijkaaW
set_option linter.unusedVariables false
def Wf_t144 (x : S145) : Prop := (Lit.int .i64 x.f0).wf = true ∧ (Lit.int .i64 x.f1).wf = true ∧ (Lit.int .i64 x.f2).wf = true ∧ (Lit.int .i64 x.f3).wf = true
theorem open_t145 (n : Nat) : OpensN Try.prog n 145 k145 Wf_t144 :=
  Opens.opens_le (Opens.opens_struct (n := n) Try.underlying145 (by kernel_rfl) (fun y => ⟨⟨y.1, y.2.1, y.2.2.1, y.2.2.2⟩, rfl⟩) (Opens.opensF_cons rfl (by kernel_rfl) (Opens.opens_int n Try.underlying3) (Opens.opensF_cons rfl (by kernel_rfl) (Opens.opens_int n Try.underlying3) (Opens.opensF_cons rfl (by kernel_rfl) (Opens.opens_int n Try.underlying3) (Opens.opensF_one rfl (by kernel_rfl) (Opens.opens_int n Try.underlying3)))))) (Nat.le_succ n)
def Wf_t65 (x : S66) : Prop := (Lit.int .i64 x.f0).wf = true ∧ (Lit.int .i64 x.f1).wf = true ∧ x.f2.size ≤ 140737488351232 ∧ x.f3.size ≤ 140737488351232 ∧ x.f4.size ≤ 140737488351232 ∧ (Lit.int .i64 x.f5).wf = true ∧ (Lit.int .u32 x.f6).wf = true ∧ (Lit.int .u64 x.f7).wf = true ∧ (Lit.int .i64 x.f8).wf = true ∧ (Lit.int .i64 x.f9).wf = true ∧ (x.f10.length ≤ maxLen ∧ x.f10.length * 32 ≤ 140737488351232 ∧ ∀ y ∈ x.f10, Wf_t144 y)
theorem open_t66 (n : Nat) : OpensN Try.prog n 66 k66 Wf_t65 :=
  Opens.opens_le (Opens.opens_struct (n := n) Try.underlying66 (by kernel_rfl) (fun y => ⟨⟨y.1, y.2.1, y.2.2.1, y.2.2.2.1, y.2.2.2.2.1, y.2.2.2.2.2.1, y.2.2.2.2.2.2.1, y.2.2.2.2.2.2.2.1, y.2.2.2.2.2.2.2.2.1, y.2.2.2.2.2.2.2.2.2.1, y.2.2.2.2.2.2.2.2.2.2⟩, rfl⟩) (Opens.opensF_cons rfl (by kernel_rfl) (Opens.opens_int n Try.underlying3) (Opens.opensF_cons rfl (by kernel_rfl) (Opens.opens_int n Try.underlying3) (Opens.opensF_cons rfl (by kernel_rfl) (Opens.opens_string n Try.underlying9) (Opens.opensF_cons rfl (by kernel_rfl) (Opens.opens_string n Try.underlying9) (Opens.opensF_cons rfl (by kernel_rfl) (Opens.opens_string n Try.underlying9) (Opens.opensF_cons rfl (by kernel_rfl) (Opens.opens_int n Try.underlying3) (Opens.opensF_cons rfl (by kernel_rfl) (Opens.opens_int n Try.underlying62) (Opens.opensF_cons rfl (by kernel_rfl) (Opens.opens_int n Try.underlying63) (Opens.opensF_cons rfl (by kernel_rfl) (Opens.opens_int n Try.underlying3) (Opens.opensF_cons rfl (by kernel_rfl) (Opens.opens_int n Try.underlying3) (Opens.opensF_one rfl (by kernel_rfl) (Opens.opens_le (Opens.opens_slice (n := n) (B := 32) Try.underlying64 (by kernel_rfl) (by kernel_rfl) (open_t145 n)) (Nat.le_succ n)))))))))))))) (Nat.le_succ n)
def Wf_t147 (x : S148) : Prop := (Lit.int .i64 x.f0).wf = true ∧ (Lit.int .i64 x.f1).wf = true ∧ (Lit.int .i64 x.f2).wf = true ∧ (Lit.int .i64 x.f3).wf = true ∧ (Lit.int .u32 x.f4).wf = true
theorem open_t148 (n : Nat) : OpensN Try.prog n 148 k148 Wf_t147 :=
  Opens.opens_le (Opens.opens_struct (n := n) Try.underlying148 (by kernel_rfl) (fun y => ⟨⟨y.1, y.2.1, y.2.2.1, y.2.2.2.1, y.2.2.2.2⟩, rfl⟩) (Opens.opensF_cons rfl (by kernel_rfl) (Opens.opens_int n Try.underlying3) (Opens.opensF_cons rfl (by kernel_rfl) (Opens.opens_int n Try.underlying3) (Opens.opensF_cons rfl (by kernel_rfl) (Opens.opens_int n Try.underlying3) (Opens.opensF_cons rfl (by kernel_rfl) (Opens.opens_int n Try.underlying3) (Opens.opensF_one rfl (by kernel_rfl) (Opens.opens_int n Try.underlying62))))))) (Nat.le_succ n)
def Wf_t149 (x : S150) : Prop := x.f0.size ≤ 140737488351232 ∧ (Lit.int .i64 x.f1).wf = true ∧ (Lit.int .i64 x.f2).wf = true
theorem open_t150 (n : Nat) : OpensN Try.prog n 150 k150 Wf_t149 :=
  Opens.opens_le (Opens.opens_struct (n := n) Try.underlying150 (by kernel_rfl) (fun y => ⟨⟨y.1, y.2.1, y.2.2⟩, rfl⟩) (Opens.opensF_cons rfl (by kernel_rfl) (Opens.opens_string n Try.underlying9) (Opens.opensF_cons rfl (by kernel_rfl) (Opens.opens_int n Try.underlying3) (Opens.opensF_one rfl (by kernel_rfl) (Opens.opens_int n Try.underlying3))))) (Nat.le_succ n)
def Wf_t132 (x : S133) : Prop := (Lit.int .i64 x.f0).wf = true ∧ (Lit.int .i64 x.f1).wf = true ∧ (Lit.int .i64 x.f2).wf = true ∧ (Lit.int .i64 x.f3).wf = true ∧ (Lit.int .i64 x.f4).wf = true ∧ (Lit.int .i64 x.f5).wf = true ∧ (Lit.int .i64 x.f6).wf = true ∧ (Lit.int .i64 x.f7).wf = true ∧ (Lit.int .u32 x.f8).wf = true ∧ (x.f9.length ≤ maxLen ∧ x.f9.length * 40 ≤ 140737488351232 ∧ ∀ y ∈ x.f9, Wf_t147 y) ∧ (x.f10.length ≤ maxLen ∧ x.f10.length * 32 ≤ 140737488351232 ∧ ∀ y ∈ x.f10, Wf_t149 y)
theorem open_t133 (n : Nat) : OpensN Try.prog n 133 k133 Wf_t132 :=
  Opens.opens_le (Opens.opens_struct (n := n) Try.underlying133 (by kernel_rfl) (fun y => ⟨⟨y.1, y.2.1, y.2.2.1, y.2.2.2.1, y.2.2.2.2.1, y.2.2.2.2.2.1, y.2.2.2.2.2.2.1, y.2.2.2.2.2.2.2.1, y.2.2.2.2.2.2.2.2.1, y.2.2.2.2.2.2.2.2.2.1, y.2.2.2.2.2.2.2.2.2.2⟩, rfl⟩) (Opens.opensF_cons rfl (by kernel_rfl) (Opens.opens_int n Try.underlying3) (Opens.opensF_cons rfl (by kernel_rfl) (Opens.opens_int n Try.underlying3) (Opens.opensF_cons rfl (by kernel_rfl) (Opens.opens_int n Try.underlying3) (Opens.opensF_cons rfl (by kernel_rfl) (Opens.opens_int n Try.underlying3) (Opens.opensF_cons rfl (by kernel_rfl) (Opens.opens_int n Try.underlying3) (Opens.opensF_cons rfl (by kernel_rfl) (Opens.opens_int n Try.underlying3) (Opens.opensF_cons rfl (by kernel_rfl) (Opens.opens_int n Try.underlying3) (Opens.opensF_cons rfl (by kernel_rfl) (Opens.opens_int n Try.underlying3) (Opens.opensF_cons rfl (by kernel_rfl) (Opens.opens_int n Try.underlying62) (Opens.opensF_cons rfl (by kernel_rfl) (Opens.opens_le (Opens.opens_slice (n := n) (B := 40) Try.underlying130 (by kernel_rfl) (by kernel_rfl) (open_t148 n)) (Nat.le_succ n)) (Opens.opensF_one rfl (by kernel_rfl) (Opens.opens_le (Opens.opens_slice (n := n) (B := 32) Try.underlying131 (by kernel_rfl) (by kernel_rfl) (open_t150 n)) (Nat.le_succ n)))))))))))))) (Nat.le_succ n)
def Wf_t134 (x : S135) : Prop := (Lit.int .i64 x.f0).wf = true ∧ (Lit.int .i64 x.f1).wf = true ∧ (Lit.int .i64 x.f2).wf = true ∧ (x.f3.length ≤ maxLen ∧ x.f3.length * 8 ≤ 140737488351232 ∧ ∀ y ∈ x.f3, (Lit.int .i64 y).wf = true)
theorem open_t135 (n : Nat) : OpensN Try.prog n 135 k135 Wf_t134 :=
  Opens.opens_le (Opens.opens_struct (n := n) Try.underlying135 (by kernel_rfl) (fun y => ⟨⟨y.1, y.2.1, y.2.2.1, y.2.2.2⟩, rfl⟩) (Opens.opensF_cons rfl (by kernel_rfl) (Opens.opens_int n Try.underlying3) (Opens.opensF_cons rfl (by kernel_rfl) (Opens.opens_int n Try.underlying3) (Opens.opensF_cons rfl (by kernel_rfl) (Opens.opens_int n Try.underlying3) (Opens.opensF_one rfl (by kernel_rfl) (Opens.opens_le (Opens.opens_slice (n := n) (B := 8) Try.underlying33 (by kernel_rfl) (by kernel_rfl) (Opens.opens_int n Try.underlying3)) (Nat.le_succ n))))))) (Nat.le_succ n)
def Wf_t136 (x : S137) : Prop := x.f0.size ≤ 140737488351232 ∧ x.f1.size ≤ 140737488351232 ∧ (Lit.int .i64 x.f2).wf = true ∧ (Lit.int .i64 x.f3).wf = true ∧ (Lit.int .i64 x.f4).wf = true
theorem open_t137 (n : Nat) : OpensN Try.prog n 137 k137 Wf_t136 :=
  Opens.opens_le (Opens.opens_struct (n := n) Try.underlying137 (by kernel_rfl) (fun y => ⟨⟨y.1, y.2.1, y.2.2.1, y.2.2.2.1, y.2.2.2.2⟩, rfl⟩) (Opens.opensF_cons rfl (by kernel_rfl) (Opens.opens_string n Try.underlying9) (Opens.opensF_cons rfl (by kernel_rfl) (Opens.opens_string n Try.underlying9) (Opens.opensF_cons rfl (by kernel_rfl) (Opens.opens_int n Try.underlying3) (Opens.opensF_cons rfl (by kernel_rfl) (Opens.opens_int n Try.underlying3) (Opens.opensF_one rfl (by kernel_rfl) (Opens.opens_int n Try.underlying3))))))) (Nat.le_succ n)
def Wf_t138 (x : S139) : Prop := x.f0.size ≤ 140737488351232 ∧ x.f1.size ≤ 140737488351232 ∧ (Lit.int .i64 x.f2).wf = true ∧ (Lit.int .i64 x.f3).wf = true ∧ (Lit.int .i64 x.f4).wf = true ∧ (Lit.int .i64 x.f5).wf = true
theorem open_t139 (n : Nat) : OpensN Try.prog n 139 k139 Wf_t138 :=
  Opens.opens_le (Opens.opens_struct (n := n) Try.underlying139 (by kernel_rfl) (fun y => ⟨⟨y.1, y.2.1, y.2.2.1, y.2.2.2.1, y.2.2.2.2.1, y.2.2.2.2.2⟩, rfl⟩) (Opens.opensF_cons rfl (by kernel_rfl) (Opens.opens_string n Try.underlying9) (Opens.opensF_cons rfl (by kernel_rfl) (Opens.opens_string n Try.underlying9) (Opens.opensF_cons rfl (by kernel_rfl) (Opens.opens_int n Try.underlying3) (Opens.opensF_cons rfl (by kernel_rfl) (Opens.opens_int n Try.underlying3) (Opens.opensF_cons rfl (by kernel_rfl) (Opens.opens_int n Try.underlying3) (Opens.opensF_one rfl (by kernel_rfl) (Opens.opens_int n Try.underlying3)))))))) (Nat.le_succ n)
def Wf_t140 (x : S141) : Prop := x.f0.size ≤ 140737488351232 ∧ x.f1.size ≤ 140737488351232
theorem open_t141 (n : Nat) : OpensN Try.prog n 141 k141 Wf_t140 :=
  Opens.opens_le (Opens.opens_struct (n := n) Try.underlying141 (by kernel_rfl) (fun y => ⟨⟨y.1, y.2⟩, rfl⟩) (Opens.opensF_cons rfl (by kernel_rfl) (Opens.opens_string n Try.underlying9) (Opens.opensF_one rfl (by kernel_rfl) (Opens.opens_string n Try.underlying9)))) (Nat.le_succ n)
def Wf_t54 (x : S55) : Prop := x.f0.size ≤ 140737488351232 ∧ (Lit.int .i64 x.f1).wf = true
theorem open_t55 (n : Nat) : OpensN Try.prog n 55 k55 Wf_t54 :=
  Opens.opens_le (Opens.opens_struct (n := n) Try.underlying55 (by kernel_rfl) (fun y => ⟨⟨y.1, y.2⟩, rfl⟩) (Opens.opensF_cons rfl (by kernel_rfl) (Opens.opens_string n Try.underlying9) (Opens.opensF_one rfl (by kernel_rfl) (Opens.opens_int n Try.underlying3)))) (Nat.le_succ n)
def Wf_t142 (x : S143) : Prop := (Lit.int .i64 x.f0).wf = true ∧ (Lit.int .i64 x.f1).wf = true ∧ x.f2.size ≤ 140737488351232 ∧ (Lit.int .u64 x.f3).wf = true ∧ (Lit.int .i64 x.f4).wf = true ∧ (x.f5.length ≤ maxLen ∧ x.f5.length * 32 ≤ 140737488351232 ∧ ∀ y ∈ x.f5, Wf_t149 y)
theorem open_t143 (n : Nat) : OpensN Try.prog n 143 k143 Wf_t142 :=
  Opens.opens_le (Opens.opens_struct (n := n) Try.underlying143 (by kernel_rfl) (fun y => ⟨⟨y.1, y.2.1, y.2.2.1, y.2.2.2.1, y.2.2.2.2.1, y.2.2.2.2.2⟩, rfl⟩) (Opens.opensF_cons rfl (by kernel_rfl) (Opens.opens_int n Try.underlying3) (Opens.opensF_cons rfl (by kernel_rfl) (Opens.opens_int n Try.underlying3) (Opens.opensF_cons rfl (by kernel_rfl) (Opens.opens_string n Try.underlying9) (Opens.opensF_cons rfl (by kernel_rfl) (Opens.opens_int n Try.underlying63) (Opens.opensF_cons rfl (by kernel_rfl) (Opens.opens_int n Try.underlying3) (Opens.opensF_one rfl (by kernel_rfl) (Opens.opens_le (Opens.opens_slice (n := n) (B := 32) Try.underlying131 (by kernel_rfl) (by kernel_rfl) (open_t150 n)) (Nat.le_succ n))))))))) (Nat.le_succ n)
def Wf_t30 (x : S31) : Prop := (Lit.int .i64 x.f0).wf = true ∧ (Lit.int .i64 x.f1).wf = true ∧ (Lit.int .i64 x.f2).wf = true ∧ (x.f3.length ≤ maxLen ∧ x.f3.length * 128 ≤ 140737488351232 ∧ ∀ y ∈ x.f3, Wf_t65 y) ∧ (x.f4.length ≤ maxLen ∧ x.f4.length * 120 ≤ 140737488351232 ∧ ∀ y ∈ x.f4, Wf_t132 y) ∧ (x.f5.length ≤ maxLen ∧ x.f5.length * 48 ≤ 140737488351232 ∧ ∀ y ∈ x.f5, Wf_t134 y) ∧ (x.f6.length ≤ maxLen ∧ x.f6.length * 56 ≤ 140737488351232 ∧ ∀ y ∈ x.f6, Wf_t136 y) ∧ (x.f7.length ≤ maxLen ∧ x.f7.length * 64 ≤ 140737488351232 ∧ ∀ y ∈ x.f7, Wf_t138 y) ∧ (x.f8.length ≤ maxLen ∧ x.f8.length * 32 ≤ 140737488351232 ∧ ∀ y ∈ x.f8, Wf_t140 y) ∧ (x.f9.length ≤ maxLen ∧ x.f9.length * 24 ≤ 140737488351232 ∧ ∀ y ∈ x.f9, Wf_t54 y) ∧ (x.f10.length ≤ maxLen ∧ x.f10.length * 72 ≤ 140737488351232 ∧ ∀ y ∈ x.f10, Wf_t142 y)
theorem open_t31 (n : Nat) : OpensN Try.prog n 31 k31 Wf_t30 :=
  Opens.opens_le (Opens.opens_struct (n := n) Try.underlying31 (by kernel_rfl) (fun y => ⟨⟨y.1, y.2.1, y.2.2.1, y.2.2.2.1, y.2.2.2.2.1, y.2.2.2.2.2.1, y.2.2.2.2.2.2.1, y.2.2.2.2.2.2.2.1, y.2.2.2.2.2.2.2.2.1, y.2.2.2.2.2.2.2.2.2.1, y.2.2.2.2.2.2.2.2.2.2⟩, rfl⟩) (Opens.opensF_cons rfl (by kernel_rfl) (Opens.opens_int n Try.underlying3) (Opens.opensF_cons rfl (by kernel_rfl) (Opens.opens_int n Try.underlying3) (Opens.opensF_cons rfl (by kernel_rfl) (Opens.opens_int n Try.underlying3) (Opens.opensF_cons rfl (by kernel_rfl) (Opens.opens_le (Opens.opens_slice (n := n) (B := 128) Try.underlying22 (by kernel_rfl) (by kernel_rfl) (open_t66 n)) (Nat.le_succ n)) (Opens.opensF_cons rfl (by kernel_rfl) (Opens.opens_le (Opens.opens_slice (n := n) (B := 120) Try.underlying23 (by kernel_rfl) (by kernel_rfl) (open_t133 n)) (Nat.le_succ n)) (Opens.opensF_cons rfl (by kernel_rfl) (Opens.opens_le (Opens.opens_slice (n := n) (B := 48) Try.underlying24 (by kernel_rfl) (by kernel_rfl) (open_t135 n)) (Nat.le_succ n)) (Opens.opensF_cons rfl (by kernel_rfl) (Opens.opens_le (Opens.opens_slice (n := n) (B := 56) Try.underlying25 (by kernel_rfl) (by kernel_rfl) (open_t137 n)) (Nat.le_succ n)) (Opens.opensF_cons rfl (by kernel_rfl) (Opens.opens_le (Opens.opens_slice (n := n) (B := 64) Try.underlying26 (by kernel_rfl) (by kernel_rfl) (open_t139 n)) (Nat.le_succ n)) (Opens.opensF_cons rfl (by kernel_rfl) (Opens.opens_le (Opens.opens_slice (n := n) (B := 32) Try.underlying27 (by kernel_rfl) (by kernel_rfl) (open_t141 n)) (Nat.le_succ n)) (Opens.opensF_cons rfl (by kernel_rfl) (Opens.opens_le (Opens.opens_slice (n := n) (B := 24) Try.underlying28 (by kernel_rfl) (by kernel_rfl) (open_t55 n)) (Nat.le_succ n)) (Opens.opensF_one rfl (by kernel_rfl) (Opens.opens_le (Opens.opens_slice (n := n) (B := 72) Try.underlying29 (by kernel_rfl) (by kernel_rfl) (open_t143 n)) (Nat.le_succ n)))))))))))))) (Nat.le_succ n)
def Pure : Prop := ∀ (x0 : S31) (x1 : List ByteArray) (x2 : List Int), Wf_t30 x0 → (x1.length ≤ maxLen ∧ x1.length * 16 ≤ 140737488351232 ∧ ∀ y ∈ x1, y.size ≤ 140737488351232) → (x2.length ≤ maxLen ∧ x2.length * 8 ≤ 140737488351232 ∧ ∀ y ∈ x2, (Lit.int .i64 y).wf = true) → ∃ k, tapearchivelaw32_QuotaAdmits.f k x0.f0 x0.f1 x0.f2 x0.f3 x0.f4 x0.f5 x0.f6 x0.f7 x0.f8 x0.f9 x0.f10 x1 x2 = some true
end Go.Proofs.Ytbadelcnaeijkaa.SQuotaAdmits
end
section
namespace Go.Proofs.Ytbadelcnaeijkaa.Quo
open Go.RowKit Go.Proofs.Ytbadelcnaeijkaa.Q Go.Proofs.YtbadelcnaeijkaaW.PrintWords Go.Proofs.YtbadelcnaeijkaaW.PrintMore Go.Proofs.YtbadelcnaeijkaaW.EvMore
theorem rd66 {l : List S66} {i : Nat} (h : i < l.length) : rd_T66 l (i : Int) = l[i] := by
  unfold rd_T66
  rw [Int.toNat_natCast, List.getD_eq_getElem?_getD, List.getElem?_eq_getElem h]
  rfl
theorem rd55 {l : List S55} {i : Nat} (h : i < l.length) : rd_T55 l (i : Int) = l[i] := by
  unfold rd_T55
  rw [Int.toNat_natCast, List.getD_eq_getElem?_getD, List.getElem?_eq_getElem h]
  rfl
theorem rdI {l : List Int} {i : Nat} (h : i < l.length) : rd l (i : Int) = l[i] := by
  unfold rd
  rw [Int.toNat_natCast, List.getD_eq_getElem?_getD, List.getElem?_eq_getElem h]
  rfl
theorem rdB {l : List ByteArray} {i : Nat} (h : i < l.length) : rdOf ByteArray.empty l (i : Int) = l[i] := by
  unfold rdOf
  rw [Int.toNat_natCast, List.getD_eq_getElem?_getD, List.getElem?_eq_getElem h]
  rfl
theorem tl_iff (s t : ByteArray) : s.toList = t.toList ↔ s = t := ⟨fun h => bs_inj (by rw [← toList_bs, ← toList_bs, h]), fun h => by rw [h]⟩
theorem size_f (x : Int) : tapearchiveref32_size.f x = some (if num x = true then x else 0) := by
  unfold tapearchiveref32_size.f
  by_cases h1 : x < 0
  · rw [if_pos h1, if_neg (fun h => by have := num_le h; omega)]
  · rw [if_neg h1]
    by_cases h2 : x > 1125899906842624
    · rw [if_pos h2, if_neg (fun h => by have := num_le h; omega)]
    · rw [if_neg h2, if_pos ((num_iff x).2 ⟨by omega, by omega⟩)]
theorem refUsed_ev (l : List S66) (o : ByteArray) (hl : l.length ≤ 1000) : Ev (fun k => tapearchiveref32_Used.f k l o) (used o l) := by
  unfold tapearchiveref32_Used.f
  have go : ∀ (d i : Nat), i + d = l.length → Ev (fun k => tapearchiveref32_Used.l0 k l o (used o (l.take i)) (i : Int)) (used o l) := by
    intro d
    induction d with
    | zero =>
      intro i hi
      refine Ev.next (fun k => by rw [tapearchiveref32_Used.l0]) (Ev.neg (by omega) (Ev.done fun _ => ?_))
      rw [List.take_of_length_le (by omega)]
    | succ d ih =>
      intro i hi
      have h : i < l.length := by omega
      have st := used_step o l i h
      have b := used_bound o (l.take i)
      have hlen : (l.take i).length = i := by rw [List.length_take]; omega
      rw [hlen] at b
      refine Ev.next (fun k => by rw [tapearchiveref32_Used.l0]) (Ev.pos (by omega) (Ev.pos (by omega) ?_))
      rw [rd66 h, wrap_in (by omega) (by omega)]
      by_cases e : l[i].f3 = o
      · refine Ev.pos ((tl_iff _ _).2 e) (Ev.bindS (size_f _) ?_)
        have e2 : wrap64 (used o (l.take i) + (if num l[i].f5 = true then l[i].f5 else 0)) = used o (l.take (i + 1)) := by
          rw [st]
          by_cases c : num l[i].f5 = true
          · rw [if_pos c, if_pos ⟨e, c⟩]
            have := num_le c
            exact wrap_in (by omega) (by omega)
          · rw [if_neg c, if_neg (fun h => c h.2)]
            exact wrap_in (by omega) (by omega)
        rw [e2]
        exact ih (i + 1) (by omega)
      · refine Ev.neg (fun q => e ((tl_iff _ _).1 q)) ?_
        rw [if_neg (fun h => e h.1), Int.add_zero] at st
        rw [← st]
        exact ih (i + 1) (by omega)
  exact go l.length 0 (by omega)
theorem refLimit_ev (l : List S55) (o : ByteArray) (hl : l.length ≤ 1000) : Ev (fun k => tapearchiveref32_Limit.f k l o) (lim o l) := by
  unfold tapearchiveref32_Limit.f
  have go : ∀ (d i : Nat), i + d = l.length → Ev (fun k => tapearchiveref32_Limit.l0 k l o (i : Int)) (lim o (l.drop i)) := by
    intro d
    induction d with
    | zero =>
      intro i hi
      refine Ev.next (fun k => by rw [tapearchiveref32_Limit.l0]) (Ev.neg (by omega) (Ev.done fun _ => ?_))
      rw [List.drop_of_length_le (by omega)]
      rfl
    | succ d ih =>
      intro i hi
      have h : i < l.length := by omega
      refine Ev.next (fun k => by rw [tapearchiveref32_Limit.l0]) (Ev.pos (by omega) (Ev.pos (by omega) ?_))
      rw [rd55 h, wrap_in (by omega) (by omega), List.drop_eq_getElem_cons h]
      unfold lim
      by_cases e : l[i].f0 = o
      · rw [if_pos e]
        exact Ev.pos ((tl_iff _ _).2 e) (Ev.done fun _ => rfl)
      · rw [if_neg e]
        exact Ev.neg (fun q => e ((tl_iff _ _).1 q)) (ih (i + 1) (by omega))
  exact go l.length 0 (by omega)
section
variable (a0 a1 a2 : Int) (l3 : List S66) (l4 : List S133) (l5 : List S135) (l6 : List S137) (l7 : List S139) (l8 : List S141) (l9 : List S55) (l10 : List S143) (m1 : List ByteArray) (m2 : List Int)
theorem refAdmit_ev (h3 : l3.length ≤ 1000) (h9 : l9.length ≤ 1000) (hm : m1.length ≤ 1000) (hm2 : m2.length ≤ 1000) : Ev (fun k => tapearchiveref32_Admit.f k a0 a1 a2 l3 l4 l5 l6 l7 l8 l9 l10 m1 m2) (admitS l3 l9 m1 m2) := by
  unfold tapearchiveref32_Admit.f admitS
  by_cases hlen0 : m1.length ≠ m2.length
  · rw [if_pos hlen0]
    exact Ev.neg (by omega) (Ev.done fun _ => rfl)
  have hlen : m1.length = m2.length := by omega
  rw [if_neg hlen0]
  refine Ev.pos (by omega) ?_
  have ub := used_bound
  have L2 : ∀ (g : List ByteArray → Prop), m2.all num = true → ∀ (i : Nat) (hi : i < m1.length) (r : Int × Int),
      (Ev (fun k => if exc l9 m1[i] (used m1[i] l3 + addS m1[i] (m1.zip m2)) = true then some ((i : Int), 20) else tapearchiveref32_Admit.l1 k m1 m2 ((i + 1 : Nat) : Int) a0 a1 a2 l3 l4 l5 l6 l7 l8 l9 l10) r) →
      ∀ (d j : Nat), j + d = m1.length → Ev (fun k => tapearchiveref32_Admit.l2 k m1 m2 (i : Int) (used m1[i] l3 + addS m1[i] ((m1.zip m2).take j)) (j : Int) a0 a1 a2 l3 l4 l5 l6 l7 l8 l9 l10) r := by
    intro _ hall i hi r hr d
    have hnum : ∀ x ∈ m1.zip m2, num x.2 = true := fun x hx => List.all_eq_true.1 hall _ (List.of_mem_zip hx).2
    have ub := used_bound m1[i] l3
    induction d with
    | zero =>
      intro j hj
      have ht : (m1.zip m2).take j = m1.zip m2 := List.take_of_length_le (by rw [List.length_zip]; omega)
      rw [ht]
      refine Ev.next (fun k => by rw [tapearchiveref32_Admit.l2]) (Ev.neg (by omega) (Ev.pos (by omega) (Ev.pos (by omega) ?_)))
      rw [rdB hi]
      refine Ev.both (refLimit_ev l9 m1[i] h9) ?_
      obtain ⟨K, hK⟩ := hr
      refine ⟨K, fun k hk => ?_⟩
      have := hK k hk
      rw [wrap_in (by omega) (by omega), cast_succ]
      unfold exc at this
      rcases hL : lim m1[i] l9 with ⟨a, b⟩
      rw [hL] at this
      cases b
      · simp only [Bool.false_and, Bool.false_eq_true, if_false] at this ⊢
        exact this
      · simp only [Bool.true_and, decide_eq_true_eq, if_true] at this ⊢
        exact this
    | succ d ih =>
      intro j hj
      have h : j < m1.length := by omega
      have hz : j < (m1.zip m2).length := by rw [List.length_zip]; omega
      have st := addS_step m1[i] (m1.zip m2) j hz
      have b := addS_bound m1[i] ((m1.zip m2).take j) (fun x hx => hnum x ((List.take_sublist j _).subset hx))
      have b2 := addS_bound m1[i] ((m1.zip m2).take (j + 1)) (fun x hx => hnum x ((List.take_sublist _ _).subset hx))
      have hlen2 : ((m1.zip m2).take j).length ≤ 1000 := by rw [List.length_take, List.length_zip]; omega
      have hlen3 : ((m1.zip m2).take (j + 1)).length ≤ 1000 := by rw [List.length_take, List.length_zip]; omega
      refine Ev.next (fun k => by rw [tapearchiveref32_Admit.l2]) (Ev.pos (by omega) (Ev.pos (by omega) (Ev.pos (by omega) (Ev.pos (by omega) ?_))))
      rw [rdB h, rdB hi, wrap_in (by omega) (by omega : (j : Int) + 1 ≤ _), cast_succ]
      have hzj : (m1.zip m2)[j] = (m1[j], m2[j]'(by omega)) := List.getElem_zip
      rw [hzj] at st
      by_cases e : m1[j] = m1[i]
      · refine Ev.pos ((tl_iff _ _).2 e) (Ev.pos (by omega) ?_)
        rw [rdI (by omega)]
        rw [if_pos e] at st
        have e2 : wrap64 (used m1[i] l3 + addS m1[i] ((m1.zip m2).take j) + m2[j]'(by omega)) = used m1[i] l3 + addS m1[i] ((m1.zip m2).take (j + 1)) := by
          rw [st, ← Int.add_assoc]
          have : used m1[i] l3 + addS m1[i] ((m1.zip m2).take j) + m2[j]'(by omega) = used m1[i] l3 + addS m1[i] ((m1.zip m2).take (j + 1)) := by rw [st, Int.add_assoc]
          exact wrap_in (by omega) (by omega)
        rw [e2]
        exact ih (j + 1) (by omega)
      · refine Ev.neg (fun q => e ((tl_iff _ _).1 q)) ?_
        rw [if_neg e, Int.add_zero] at st
        rw [← st]
        exact ih (j + 1) (by omega)
  have L1 : m2.all num = true → ∀ (d i : Nat), i + d = m1.length → Ev (fun k => tapearchiveref32_Admit.l1 k m1 m2 (i : Int) a0 a1 a2 l3 l4 l5 l6 l7 l8 l9 l10) (firstEx l9 (fun s => used s l3 + addS s (m1.zip m2)) (m1.drop i) i) := by
    intro hall d
    induction d with
    | zero =>
      intro i hi
      rw [List.drop_of_length_le (by omega)]
      refine Ev.next (fun k => by rw [tapearchiveref32_Admit.l1]) (Ev.neg (by omega) (Ev.done fun _ => ?_))
      rfl
    | succ d ih =>
      intro i hi
      have h : i < m1.length := by omega
      refine Ev.next (fun k => by rw [tapearchiveref32_Admit.l1]) (Ev.pos (by omega) (Ev.pos (by omega) ?_))
      rw [rdB h]
      refine Ev.both (refUsed_ev l3 m1[i] h3) ?_
      rw [List.drop_eq_getElem_cons h, firstEx_cons]
      have := L2 (fun _ => True) hall i h (if exc l9 m1[i] (used m1[i] l3 + addS m1[i] (m1.zip m2)) = true then ((i : Int), 20) else firstEx l9 (fun s => used s l3 + addS s (m1.zip m2)) (m1.drop (i + 1)) (i + 1)) (by
        by_cases c : exc l9 m1[i] (used m1[i] l3 + addS m1[i] (m1.zip m2)) = true
        · rw [if_pos c]
          exact Ev.pos c (Ev.done fun _ => rfl)
        · rw [if_neg c]
          exact Ev.neg c (ih (i + 1) (by omega))) m1.length 0 (by omega)
      simpa [addS] using this
  have L0 : ∀ (d i : Nat), i + d = m2.length → Ev (fun k => tapearchiveref32_Admit.l0 k m1 m2 (i : Int) a0 a1 a2 l3 l4 l5 l6 l7 l8 l9 l10) (if (!(m2.drop i).all num) = true then (0, 8) else if (!m2.all num) = true then (0, 8) else firstEx l9 (fun s => used s l3 + addS s (m1.zip m2)) m1 0) ∨ (m2.take i).all num = false := by
    intro d
    induction d with
    | zero =>
      intro i hi
      rw [List.drop_of_length_le (by omega)]
      by_cases hall : m2.all num = true
      · refine .inl (Ev.next (fun k => by rw [tapearchiveref32_Admit.l0]) (Ev.neg (by omega) ?_))
        have := L1 hall m1.length 0 (by omega)
        simpa [hall] using this
      · refine .inr ?_
        rw [List.take_of_length_le (by omega)]
        simpa using hall
    | succ d ih =>
      intro i hi
      have h : i < m2.length := by omega
      rcases ih (i + 1) (by omega) with ih | ih
      · refine .inl (Ev.next (fun k => by rw [tapearchiveref32_Admit.l0]) (Ev.pos (by omega) (Ev.pos (by omega) ?_)))
        rw [rdI h, List.drop_eq_getElem_cons h, List.all_cons]
        by_cases c : num m2[i] = true
        · have := num_le c
          rw [c, Bool.true_and, wrap_in (by omega) (by omega), cast_succ]
          exact Ev.neg (by omega) (Ev.neg (by omega) ih)
        · have e : num m2[i] = false := by simpa using c
          rw [e, Bool.false_and]
          by_cases c1 : m2[i] < 0
          · exact Ev.pos c1 (Ev.done fun _ => rfl)
          · refine Ev.neg c1 (Ev.pos ?_ (Ev.done fun _ => rfl))
            have : ¬ (0 ≤ m2[i] ∧ m2[i] ≤ 1125899906842624) := fun h => c ((num_iff _).2 h)
            omega
      · by_cases c : num m2[i] = true
        · refine .inr ?_
          rw [List.take_succ_eq_append_getElem h, List.all_append] at ih
          simpa [c] using ih
        · have e : num m2[i] = false := by simpa using c
          refine .inl (Ev.next (fun k => by rw [tapearchiveref32_Admit.l0]) (Ev.pos (by omega) (Ev.pos (by omega) ?_)))
          rw [rdI h, List.drop_eq_getElem_cons h, List.all_cons, e, Bool.false_and]
          by_cases c1 : m2[i] < 0
          · exact Ev.pos c1 (Ev.done fun _ => rfl)
          · refine Ev.neg c1 (Ev.pos ?_ (Ev.done fun _ => rfl))
            have : ¬ (0 ≤ m2[i] ∧ m2[i] ≤ 1125899906842624) := fun h => c ((num_iff _).2 h)
            omega
  rcases L0 m2.length 0 (by omega) with h | h
  · rw [List.drop_zero] at h
    by_cases c : (!m2.all num) = true
    · rw [if_pos c] at h ⊢; exact h
    · rw [if_neg c, if_neg c] at h
      rw [if_neg c]; exact h
  · simp at h
theorem few_f : tapearchivelaw32_few.f a0 a1 a2 l3 l4 l5 l6 l7 l8 l9 l10 = some (a0, a1, a2, l3.take 60, l4, l5, l6, l7, l8, l9.take 60, l10) := by
  unfold tapearchivelaw32_few.f
  by_cases c1 : (l3.length : Int) > 60
  · rw [if_pos c1, if_pos (by omega), Option.bind_some]
    by_cases c2 : (l9.length : Int) > 60
    · rw [if_pos c2, if_pos (by omega)]; try rfl
    · rw [if_neg c2, List.take_of_length_le (l := l9) (by omega)]; try rfl
  · rw [if_neg c1, List.take_of_length_le (l := l3) (by omega)]
    by_cases c2 : (l9.length : Int) > 60
    · rw [if_pos c2, if_pos (by omega)]; try rfl
    · rw [if_neg c2, List.take_of_length_le (l := l9) (by omega)]; try rfl
theorem cut_f : tapearchivelaw32_cut.f m1 m2 = some (m1.take 40, m2.take 40) := by
  unfold tapearchivelaw32_cut.f
  by_cases c1 : (m1.length : Int) > 40
  · rw [if_pos c1, if_pos (by omega), Option.bind_some]
    by_cases c2 : (m2.length : Int) > 40
    · rw [if_pos c2, if_pos (by omega)]; try rfl
    · rw [if_neg c2, List.take_of_length_le (l := m2) (by omega)]; try rfl
  · rw [if_neg c1, List.take_of_length_le (l := m1) (by omega)]
    by_cases c2 : (m2.length : Int) > 40
    · rw [if_pos c2, if_pos (by omega)]; try rfl
    · rw [if_neg c2, List.take_of_length_le (l := m2) (by omega)]; try rfl
end
theorem same_ev (l : List Int) (hl : l.length ≤ 1000000) : Ev (fun k => tapearchivelaw32_same.f k l l) true := by
  unfold tapearchivelaw32_same.f
  refine Ev.pos rfl ?_
  have go : ∀ (d i : Nat), i + d = l.length → Ev (fun k => tapearchivelaw32_same.l0 k l l (i : Int)) true := by
    intro d
    induction d with
    | zero =>
      intro i hi
      exact Ev.next (fun k => by rw [tapearchivelaw32_same.l0]) (Ev.neg (by omega) (Ev.done fun _ => rfl))
    | succ d ih =>
      intro i hi
      refine Ev.next (fun k => by rw [tapearchivelaw32_same.l0]) (Ev.pos (by omega) (Ev.pos (by omega) (Ev.pos (by omega) (Ev.pos rfl ?_))))
      rw [wrap_in (by omega) (by omega), cast_succ]
      exact ih (i + 1) (by omega)
  exact go l.length 0 (by omega)
theorem awake_ev : Ev (fun k => tapearchivelaw32_awake.f k) true := by
  unfold tapearchivelaw32_awake.f
  refine Ev.bindS rfl (Ev.bindS rfl (Ev.bindS (a := (1, 20)) (by kernel_rfl) (Ev.bindS (a := ([4, 3, 3], 0)) (by kernel_rfl) (Ev.bindS (a := (100, true)) (by kernel_rfl) (Ev.bindS (a := 60) (by kernel_rfl) ?_)))))
  refine Ev.pos rfl (Ev.pos rfl (Ev.pos rfl (Ev.pos rfl (Ev.both (same_ev [4, 3, 3] (by simp)) (Ev.pos rfl (Ev.pos rfl (Ev.done fun _ => rfl)))))))
end Go.Proofs.Ytbadelcnaeijkaa.Quo
end
section
namespace Go.Proofs.Ytbadelcnaeijkaa.Quo
open Go.RowKit Go.Proofs.Ytbadelcnaeijkaa.Q Go.Proofs.YtbadelcnaeijkaaW.PrintWords Go.Proofs.YtbadelcnaeijkaaW.PrintMore Go.Proofs.YtbadelcnaeijkaaW.EvMore
theorem admit_f (a0 a1 a2 : Int) (l3 : List S66) (l4 : List S133) (l5 : List S135) (l6 : List S137) (l7 : List S139) (l8 : List S141) (l9 : List S55) (l10 : List S143) (m1 : List ByteArray) (m2 : List Int) (h : admitOk l3 l9 m1 m2) :
    quota_Admit.f a0 a1 a2 l3 l4 l5 l6 l7 l8 l9 l10 m1 m2 = some (admitS l3 l9 m1 m2) := if_pos h
theorem admits : Go.Proofs.Ytbadelcnaeijkaa.SQuotaAdmits.Pure := by
  intro x0 x1 x2 hx h1 h2
  have hu : usedOk (x0.f3.take 60) := ⟨by rw [List.length_take]; omega, fun x hm => (hx.2.2.2.1.2.2 x ((List.take_sublist _ _).subset hm)).2.2.2.1⟩
  have h9 : (x0.f9.take 60).length ≤ 60 := by rw [List.length_take]; omega
  have h3 : (x0.f3.take 60).length ≤ 60 := by rw [List.length_take]; omega
  have hm1 : (x1.take 40).length ≤ 40 := by rw [List.length_take]; omega
  have hm2 : (x2.take 40).length ≤ 40 := by rw [List.length_take]; omega
  have hok : admitOk (x0.f3.take 60) (x0.f9.take 60) (x1.take 40) (x2.take 40) := ⟨hu, by omega, ⟨by omega, fun o ho => h1.2.2 o ((List.take_sublist _ _).subset ho)⟩, by omega⟩
  refine Ev.get (f := fun k => tapearchivelaw32_QuotaAdmits.f k x0.f0 x0.f1 x0.f2 x0.f3 x0.f4 x0.f5 x0.f6 x0.f7 x0.f8 x0.f9 x0.f10 x1 x2) ?_
  unfold tapearchivelaw32_QuotaAdmits.f
  refine Ev.bindS (few_f _ _ _ _ _ _ _ _ _ _ _) (Ev.bindS (cut_f _ _) (Ev.bindS (admit_f _ _ _ _ _ _ _ _ _ _ _ _ _ hok) (Ev.both (refAdmit_ev _ _ _ (x0.f3.take 60) _ _ _ _ _ (x0.f9.take 60) _ (x1.take 40) (x2.take 40) (by omega) (by omega) (by omega) (by omega)) ?_)))
  exact Ev.pos rfl (Ev.pos rfl (Ev.both awake_ev (Ev.done fun _ => rfl)))
end Go.Proofs.Ytbadelcnaeijkaa.Quo
namespace Go.Proofs.Ytbadelcnaeijkaa.Pure
theorem QuotaAdmits : Go.Proofs.Ytbadelcnaeijkaa.SQuotaAdmits.Pure := Quo.admits
end Go.Proofs.Ytbadelcnaeijkaa.Pure
end
