import Derived.Test.YtbadelcnaeijkaaKQuotaUses9
import Derived.Sort.Walk0
set_option linter.unusedVariables false
set_option linter.unusedSimpArgs false
section
namespace Go.Proofs.Ytbadelcnaeijkaa.SQuotaUses
open Go.RowKit Go.Proofs.Ytbadelcnaeijkaa.Q Go.Proofs.YtbadelcnaeijkaaW.PrintWords Go.Proofs.YtbadelcnaeijkaaW.PrintLast Go.Proofs.YtbadelcnaeijkaaW.Opens Go.Proofs.YtbadelcnaeijkaaW
set_option linter.unusedVariables false
def Wf_t144 (x : S145) : Prop := (Lit.int .i64 x.f0).wf = true ∧ (Lit.int .i64 x.f1).wf = true ∧ (Lit.int .i64 x.f2).wf = true ∧ (Lit.int .i64 x.f3).wf = true
theorem open_t145 (n : Nat) : OpensN Try.prog n 145 k145 Wf_t144 :=
  Opens.opens_le (Opens.opens_struct (n := n) Try.underlying145 (by kernel_rfl) (fun y => ⟨⟨y.1, y.2.1, y.2.2.1, y.2.2.2⟩, rfl⟩) (Opens.opensF_cons rfl (by kernel_rfl) (Opens.opens_int n Try.underlying3) (Opens.opensF_cons rfl (by kernel_rfl) (Opens.opens_int n Try.underlying3) (Opens.opensF_cons rfl (by kernel_rfl) (Opens.opens_int n Try.underlying3) (Opens.opensF_one rfl (by kernel_rfl) (Opens.opens_int n Try.underlying3)))))) (Nat.le_succ n)
def Wf_t65 (x : S66) : Prop := (Lit.int .i64 x.f0).wf = true ∧ (Lit.int .i64 x.f1).wf = true ∧ x.f2.size ≤ 140737488351232 ∧ x.f3.size ≤ 140737488351232 ∧ x.f4.size ≤ 140737488351232 ∧ (Lit.int .i64 x.f5).wf = true ∧ (Lit.int .u32 x.f6).wf = true ∧ (Lit.int .u64 x.f7).wf = true ∧ (Lit.int .i64 x.f8).wf = true ∧ (Lit.int .i64 x.f9).wf = true ∧ (x.f10.length ≤ maxLen ∧ x.f10.length * 32 ≤ 140737488351232 ∧ ∀ y ∈ x.f10, Wf_t144 y)
theorem open_t66 (n : Nat) : OpensN Try.prog n 66 k66 Wf_t65 :=
  Opens.opens_le (Opens.opens_struct (n := n) Try.underlying66 (by kernel_rfl) (fun y => ⟨⟨y.1, y.2.1, y.2.2.1, y.2.2.2.1, y.2.2.2.2.1, y.2.2.2.2.2.1, y.2.2.2.2.2.2.1, y.2.2.2.2.2.2.2.1, y.2.2.2.2.2.2.2.2.1, y.2.2.2.2.2.2.2.2.2.1, y.2.2.2.2.2.2.2.2.2.2⟩, rfl⟩) (Opens.opensF_cons rfl (by kernel_rfl) (Opens.opens_int n Try.underlying3) (Opens.opensF_cons rfl (by kernel_rfl) (Opens.opens_int n Try.underlying3) (Opens.opensF_cons rfl (by kernel_rfl) (Opens.opens_string n Try.underlying9) (Opens.opensF_cons rfl (by kernel_rfl) (Opens.opens_string n Try.underlying9) (Opens.opensF_cons rfl (by kernel_rfl) (Opens.opens_string n Try.underlying9) (Opens.opensF_cons rfl (by kernel_rfl) (Opens.opens_int n Try.underlying3) (Opens.opensF_cons rfl (by kernel_rfl) (Opens.opens_int n Try.underlying62) (Opens.opensF_cons rfl (by kernel_rfl) (Opens.opens_int n Try.underlying63) (Opens.opensF_cons rfl (by kernel_rfl) (Opens.opens_int n Try.underlying3) (Opens.opensF_cons rfl (by kernel_rfl) (Opens.opens_int n Try.underlying3) (Opens.opensF_one rfl (by kernel_rfl) (Opens.opens_le (Opens.opens_slice (n := n) (B := 32) Try.underlying64 (by kernel_rfl) (by kernel_rfl) (open_t145 n)) (Nat.le_succ n)))))))))))))) (Nat.le_succ n)
def Wf_t147 (x : S148) : Prop := (Lit.int .i64 x.f0).wf = true ∧ (Lit.int .i64 x.f1).wf = true ∧ (Lit.int .i64 x.f2).wf = true ∧ (Lit.int .i64 x.f3).wf = true ∧ (Lit.int .u32 x.f4).wf = true
theorem open_t148 (n : Nat) : OpensN Try.prog n 148 k148 Wf_t147 :=
  Opens.opens_le (Opens.opens_struct (n := n) Try.underlying148 (by kernel_rfl) (fun y => ⟨⟨y.1, y.2.1, y.2.2.1, y.2.2.2.1, y.2.2.2.2⟩, rfl⟩) (Opens.opensF_cons rfl (by kernel_rfl) (Opens.opens_int n Try.underlying3) (Opens.opensF_cons rfl (by kernel_rfl) (Opens.opens_int n Try.underlying3) (Opens.opensF_cons rfl (by kernel_rfl) (Opens.opens_int n Try.underlying3) (Opens.opensF_cons rfl (by kernel_rfl) (Opens.opens_int n Try.underlying3) (Opens.opensF_one rfl (by kernel_rfl) (Opens.opens_int n Try.underlying62))))))) (Nat.le_succ n)
def Wf_t149 (x : S150) : Prop := x.f0.size ≤ 140737488351232 ∧ (Lit.int .i64 x.f1).wf = true ∧ (Lit.int .i64 x.f2).wf = true
theorem open_t150 (n : Nat) : OpensN Try.prog n 150 k150 Wf_t149 :=
  Opens.opens_le (Opens.opens_struct (n := n) Try.underlying150 (by kernel_rfl) (fun y => ⟨⟨y.1, y.2.1, y.2.2⟩, rfl⟩) (Opens.opensF_cons rfl (by kernel_rfl) (Opens.opens_string n Try.underlying9) (Opens.opensF_cons rfl (by kernel_rfl) (Opens.opens_int n Try.underlying3) (Opens.opensF_one rfl (by kernel_rfl) (Opens.opens_int n Try.underlying3))))) (Nat.le_succ n)
def Wf_t132 (x : S133) : Prop := (Lit.int .i64 x.f0).wf = true ∧ (Lit.int .i64 x.f1).wf = true ∧ (Lit.int .i64 x.f2).wf = true ∧ (Lit.int .i64 x.f3).wf = true ∧ (Lit.int .i64 x.f4).wf = true ∧ (Lit.int .i64 x.f5).wf = true ∧ (Lit.int .i64 x.f6).wf = true ∧ (Lit.int .i64 x.f7).wf = true ∧ (Lit.int .u32 x.f8).wf = true ∧ (x.f9.length ≤ maxLen ∧ x.f9.length * 40 ≤ 140737488351232 ∧ ∀ y ∈ x.f9, Wf_t147 y) ∧ (x.f10.length ≤ maxLen ∧ x.f10.length * 32 ≤ 140737488351232 ∧ ∀ y ∈ x.f10, Wf_t149 y)
theorem open_t133 (n : Nat) : OpensN Try.prog n 133 k133 Wf_t132 :=
  Opens.opens_le (Opens.opens_struct (n := n) Try.underlying133 (by kernel_rfl) (fun y => ⟨⟨y.1, y.2.1, y.2.2.1, y.2.2.2.1, y.2.2.2.2.1, y.2.2.2.2.2.1, y.2.2.2.2.2.2.1, y.2.2.2.2.2.2.2.1, y.2.2.2.2.2.2.2.2.1, y.2.2.2.2.2.2.2.2.2.1, y.2.2.2.2.2.2.2.2.2.2⟩, rfl⟩) (Opens.opensF_cons rfl (by kernel_rfl) (Opens.opens_int n Try.underlying3) (Opens.opensF_cons rfl (by kernel_rfl) (Opens.opens_int n Try.underlying3) (Opens.opensF_cons rfl (by kernel_rfl) (Opens.opens_int n Try.underlying3) (Opens.opensF_cons rfl (by kernel_rfl) (Opens.opens_int n Try.underlying3) (Opens.opensF_cons rfl (by kernel_rfl) (Opens.opens_int n Try.underlying3) (Opens.opensF_cons rfl (by kernel_rfl) (Opens.opens_int n Try.underlying3) (Opens.opensF_cons rfl (by kernel_rfl) (Opens.opens_int n Try.underlying3) (Opens.opensF_cons rfl (by kernel_rfl) (Opens.opens_int n Try.underlying3) (Opens.opensF_cons rfl (by kernel_rfl) (Opens.opens_int n Try.underlying62) (Opens.opensF_cons rfl (by kernel_rfl) (Opens.opens_le (Opens.opens_slice (n := n) (B := 40) Try.underlying130 (by kernel_rfl) (by kernel_rfl) (open_t148 n)) (Nat.le_succ n)) (Opens.opensF_one rfl (by kernel_rfl) (Opens.opens_le (Opens.opens_slice (n := n) (B := 32) Try.underlying131 (by kernel_rfl) (by kernel_rfl) (open_t150 n)) (Nat.le_succ n)))))))))))))) (Nat.le_succ n)
def Wf_t134 (x : S135) : Prop := (Lit.int .i64 x.f0).wf = true ∧ (Lit.int .i64 x.f1).wf = true ∧ (Lit.int .i64 x.f2).wf = true ∧ (x.f3.length ≤ maxLen ∧ x.f3.length * 8 ≤ 140737488351232 ∧ ∀ y ∈ x.f3, (Lit.int .i64 y).wf = true)
theorem open_t135 (n : Nat) : OpensN Try.prog n 135 k135 Wf_t134 :=
  Opens.opens_le (Opens.opens_struct (n := n) Try.underlying135 (by kernel_rfl) (fun y => ⟨⟨y.1, y.2.1, y.2.2.1, y.2.2.2⟩, rfl⟩) (Opens.opensF_cons rfl (by kernel_rfl) (Opens.opens_int n Try.underlying3) (Opens.opensF_cons rfl (by kernel_rfl) (Opens.opens_int n Try.underlying3) (Opens.opensF_cons rfl (by kernel_rfl) (Opens.opens_int n Try.underlying3) (Opens.opensF_one rfl (by kernel_rfl) (Opens.opens_le (Opens.opens_slice (n := n) (B := 8) Try.underlying33 (by kernel_rfl) (by kernel_rfl) (Opens.opens_int n Try.underlying3)) (Nat.le_succ n))))))) (Nat.le_succ n)
def Wf_t136 (x : S137) : Prop := x.f0.size ≤ 140737488351232 ∧ x.f1.size ≤ 140737488351232 ∧ (Lit.int .i64 x.f2).wf = true ∧ (Lit.int .i64 x.f3).wf = true ∧ (Lit.int .i64 x.f4).wf = true
theorem open_t137 (n : Nat) : OpensN Try.prog n 137 k137 Wf_t136 :=
  Opens.opens_le (Opens.opens_struct (n := n) Try.underlying137 (by kernel_rfl) (fun y => ⟨⟨y.1, y.2.1, y.2.2.1, y.2.2.2.1, y.2.2.2.2⟩, rfl⟩) (Opens.opensF_cons rfl (by kernel_rfl) (Opens.opens_string n Try.underlying9) (Opens.opensF_cons rfl (by kernel_rfl) (Opens.opens_string n Try.underlying9) (Opens.opensF_cons rfl (by kernel_rfl) (Opens.opens_int n Try.underlying3) (Opens.opensF_cons rfl (by kernel_rfl) (Opens.opens_int n Try.underlying3) (Opens.opensF_one rfl (by kernel_rfl) (Opens.opens_int n Try.underlying3))))))) (Nat.le_succ n)
def Wf_t138 (x : S139) : Prop := x.f0.size ≤ 140737488351232 ∧ x.f1.size ≤ 140737488351232 ∧ (Lit.int .i64 x.f2).wf = true ∧ (Lit.int .i64 x.f3).wf = true ∧ (Lit.int .i64 x.f4).wf = true ∧ (Lit.int .i64 x.f5).wf = true
theorem open_t139 (n : Nat) : OpensN Try.prog n 139 k139 Wf_t138 :=
  Opens.opens_le (Opens.opens_struct (n := n) Try.underlying139 (by kernel_rfl) (fun y => ⟨⟨y.1, y.2.1, y.2.2.1, y.2.2.2.1, y.2.2.2.2.1, y.2.2.2.2.2⟩, rfl⟩) (Opens.opensF_cons rfl (by kernel_rfl) (Opens.opens_string n Try.underlying9) (Opens.opensF_cons rfl (by kernel_rfl) (Opens.opens_string n Try.underlying9) (Opens.opensF_cons rfl (by kernel_rfl) (Opens.opens_int n Try.underlying3) (Opens.opensF_cons rfl (by kernel_rfl) (Opens.opens_int n Try.underlying3) (Opens.opensF_cons rfl (by kernel_rfl) (Opens.opens_int n Try.underlying3) (Opens.opensF_one rfl (by kernel_rfl) (Opens.opens_int n Try.underlying3)))))))) (Nat.le_succ n)
def Wf_t140 (x : S141) : Prop := x.f0.size ≤ 140737488351232 ∧ x.f1.size ≤ 140737488351232
theorem open_t141 (n : Nat) : OpensN Try.prog n 141 k141 Wf_t140 :=
  Opens.opens_le (Opens.opens_struct (n := n) Try.underlying141 (by kernel_rfl) (fun y => ⟨⟨y.1, y.2⟩, rfl⟩) (Opens.opensF_cons rfl (by kernel_rfl) (Opens.opens_string n Try.underlying9) (Opens.opensF_one rfl (by kernel_rfl) (Opens.opens_string n Try.underlying9)))) (Nat.le_succ n)
def Wf_t54 (x : S55) : Prop := x.f0.size ≤ 140737488351232 ∧ (Lit.int .i64 x.f1).wf = true
theorem open_t55 (n : Nat) : OpensN Try.prog n 55 k55 Wf_t54 :=
  Opens.opens_le (Opens.opens_struct (n := n) Try.underlying55 (by kernel_rfl) (fun y => ⟨⟨y.1, y.2⟩, rfl⟩) (Opens.opensF_cons rfl (by kernel_rfl) (Opens.opens_string n Try.underlying9) (Opens.opensF_one rfl (by kernel_rfl) (Opens.opens_int n Try.underlying3)))) (Nat.le_succ n)
def Wf_t142 (x : S143) : Prop := (Lit.int .i64 x.f0).wf = true ∧ (Lit.int .i64 x.f1).wf = true ∧ x.f2.size ≤ 140737488351232 ∧ (Lit.int .u64 x.f3).wf = true ∧ (Lit.int .i64 x.f4).wf = true ∧ (x.f5.length ≤ maxLen ∧ x.f5.length * 32 ≤ 140737488351232 ∧ ∀ y ∈ x.f5, Wf_t149 y)
theorem open_t143 (n : Nat) : OpensN Try.prog n 143 k143 Wf_t142 :=
  Opens.opens_le (Opens.opens_struct (n := n) Try.underlying143 (by kernel_rfl) (fun y => ⟨⟨y.1, y.2.1, y.2.2.1, y.2.2.2.1, y.2.2.2.2.1, y.2.2.2.2.2⟩, rfl⟩) (Opens.opensF_cons rfl (by kernel_rfl) (Opens.opens_int n Try.underlying3) (Opens.opensF_cons rfl (by kernel_rfl) (Opens.opens_int n Try.underlying3) (Opens.opensF_cons rfl (by kernel_rfl) (Opens.opens_string n Try.underlying9) (Opens.opensF_cons rfl (by kernel_rfl) (Opens.opens_int n Try.underlying63) (Opens.opensF_cons rfl (by kernel_rfl) (Opens.opens_int n Try.underlying3) (Opens.opensF_one rfl (by kernel_rfl) (Opens.opens_le (Opens.opens_slice (n := n) (B := 32) Try.underlying131 (by kernel_rfl) (by kernel_rfl) (open_t150 n)) (Nat.le_succ n))))))))) (Nat.le_succ n)
def Wf_t30 (x : S31) : Prop := (Lit.int .i64 x.f0).wf = true ∧ (Lit.int .i64 x.f1).wf = true ∧ (Lit.int .i64 x.f2).wf = true ∧ (x.f3.length ≤ maxLen ∧ x.f3.length * 128 ≤ 140737488351232 ∧ ∀ y ∈ x.f3, Wf_t65 y) ∧ (x.f4.length ≤ maxLen ∧ x.f4.length * 120 ≤ 140737488351232 ∧ ∀ y ∈ x.f4, Wf_t132 y) ∧ (x.f5.length ≤ maxLen ∧ x.f5.length * 48 ≤ 140737488351232 ∧ ∀ y ∈ x.f5, Wf_t134 y) ∧ (x.f6.length ≤ maxLen ∧ x.f6.length * 56 ≤ 140737488351232 ∧ ∀ y ∈ x.f6, Wf_t136 y) ∧ (x.f7.length ≤ maxLen ∧ x.f7.length * 64 ≤ 140737488351232 ∧ ∀ y ∈ x.f7, Wf_t138 y) ∧ (x.f8.length ≤ maxLen ∧ x.f8.length * 32 ≤ 140737488351232 ∧ ∀ y ∈ x.f8, Wf_t140 y) ∧ (x.f9.length ≤ maxLen ∧ x.f9.length * 24 ≤ 140737488351232 ∧ ∀ y ∈ x.f9, Wf_t54 y) ∧ (x.f10.length ≤ maxLen ∧ x.f10.length * 72 ≤ 140737488351232 ∧ ∀ y ∈ x.f10, Wf_t142 y)
theorem open_t31 (n : Nat) : OpensN Try.prog n 31 k31 Wf_t30 :=
  Opens.opens_le (Opens.opens_struct (n := n) Try.underlying31 (by kernel_rfl) (fun y => ⟨⟨y.1, y.2.1, y.2.2.1, y.2.2.2.1, y.2.2.2.2.1, y.2.2.2.2.2.1, y.2.2.2.2.2.2.1, y.2.2.2.2.2.2.2.1, y.2.2.2.2.2.2.2.2.1, y.2.2.2.2.2.2.2.2.2.1, y.2.2.2.2.2.2.2.2.2.2⟩, rfl⟩) (Opens.opensF_cons rfl (by kernel_rfl) (Opens.opens_int n Try.underlying3) (Opens.opensF_cons rfl (by kernel_rfl) (Opens.opens_int n Try.underlying3) (Opens.opensF_cons rfl (by kernel_rfl) (Opens.opens_int n Try.underlying3) (Opens.opensF_cons rfl (by kernel_rfl) (Opens.opens_le (Opens.opens_slice (n := n) (B := 128) Try.underlying22 (by kernel_rfl) (by kernel_rfl) (open_t66 n)) (Nat.le_succ n)) (Opens.opensF_cons rfl (by kernel_rfl) (Opens.opens_le (Opens.opens_slice (n := n) (B := 120) Try.underlying23 (by kernel_rfl) (by kernel_rfl) (open_t133 n)) (Nat.le_succ n)) (Opens.opensF_cons rfl (by kernel_rfl) (Opens.opens_le (Opens.opens_slice (n := n) (B := 48) Try.underlying24 (by kernel_rfl) (by kernel_rfl) (open_t135 n)) (Nat.le_succ n)) (Opens.opensF_cons rfl (by kernel_rfl) (Opens.opens_le (Opens.opens_slice (n := n) (B := 56) Try.underlying25 (by kernel_rfl) (by kernel_rfl) (open_t137 n)) (Nat.le_succ n)) (Opens.opensF_cons rfl (by kernel_rfl) (Opens.opens_le (Opens.opens_slice (n := n) (B := 64) Try.underlying26 (by kernel_rfl) (by kernel_rfl) (open_t139 n)) (Nat.le_succ n)) (Opens.opensF_cons rfl (by kernel_rfl) (Opens.opens_le (Opens.opens_slice (n := n) (B := 32) Try.underlying27 (by kernel_rfl) (by kernel_rfl) (open_t141 n)) (Nat.le_succ n)) (Opens.opensF_cons rfl (by kernel_rfl) (Opens.opens_le (Opens.opens_slice (n := n) (B := 24) Try.underlying28 (by kernel_rfl) (by kernel_rfl) (open_t55 n)) (Nat.le_succ n)) (Opens.opensF_one rfl (by kernel_rfl) (Opens.opens_le (Opens.opens_slice (n := n) (B := 72) Try.underlying29 (by kernel_rfl) (by kernel_rfl) (open_t143 n)) (Nat.le_succ n)))))))))))))) (Nat.le_succ n)
def Pure : Prop := ∀ (x0 : S31) (x1 : ByteArray), Wf_t30 x0 → x1.size ≤ 140737488351232 → ∃ k, tapearchivelaw32_QuotaUses.f k x0.f0 x0.f1 x0.f2 x0.f3 x0.f4 x0.f5 x0.f6 x0.f7 x0.f8 x0.f9 x0.f10 x1 = some true
end Go.Proofs.Ytbadelcnaeijkaa.SQuotaUses
end
section
namespace Go.Proofs.Ytbadelcnaeijkaa.Quo
open Go.RowKit Go.Proofs.Ytbadelcnaeijkaa.Q Go.Proofs.YtbadelcnaeijkaaW.PrintWords Go.Proofs.YtbadelcnaeijkaaW.PrintMore Go.Proofs.YtbadelcnaeijkaaW.EvMore
theorem rd66 {l : List S66} {i : Nat} (h : i < l.length) : rd_T66 l (i : Int) = l[i] := by
  unfold rd_T66
  rw [Int.toNat_natCast, List.getD_eq_getElem?_getD, List.getElem?_eq_getElem h]
  rfl
theorem rd55 {l : List S55} {i : Nat} (h : i < l.length) : rd_T55 l (i : Int) = l[i] := by
  unfold rd_T55
  rw [Int.toNat_natCast, List.getD_eq_getElem?_getD, List.getElem?_eq_getElem h]
  rfl
theorem rdB {l : List ByteArray} {i : Nat} (h : i < l.length) : rdOf ByteArray.empty l (i : Int) = l[i] := by
  unfold rdOf
  rw [Int.toNat_natCast, List.getD_eq_getElem?_getD, List.getElem?_eq_getElem h]
  rfl
theorem tl_iff (s t : ByteArray) : s.toList = t.toList ↔ s = t := ⟨fun h => bs_inj (by rw [← toList_bs, ← toList_bs, h]), fun h => by rw [h]⟩
theorem size_f (x : Int) : tapearchiveref32_size.f x = some (if num x = true then x else 0) := by
  unfold tapearchiveref32_size.f
  by_cases h1 : x < 0
  · rw [if_pos h1, if_neg (fun h => by have := num_le h; omega)]
  · rw [if_neg h1]
    by_cases h2 : x > 1125899906842624
    · rw [if_pos h2, if_neg (fun h => by have := num_le h; omega)]
    · rw [if_neg h2, if_pos ((num_iff x).2 ⟨by omega, by omega⟩)]
theorem refUsed_ev (l : List S66) (o : ByteArray) (hl : l.length ≤ 1000) : Ev (fun k => tapearchiveref32_Used.f k l o) (used o l) := by
  unfold tapearchiveref32_Used.f
  have go : ∀ (d i : Nat), i + d = l.length → Ev (fun k => tapearchiveref32_Used.l0 k l o (used o (l.take i)) (i : Int)) (used o l) := by
    intro d
    induction d with
    | zero =>
      intro i hi
      refine Ev.next (fun k => by rw [tapearchiveref32_Used.l0]) (Ev.neg (by omega) (Ev.done fun _ => ?_))
      rw [List.take_of_length_le (by omega)]
    | succ d ih =>
      intro i hi
      have h : i < l.length := by omega
      have st := used_step o l i h
      have b := used_bound o (l.take i)
      have hlen : (l.take i).length = i := by rw [List.length_take]; omega
      rw [hlen] at b
      refine Ev.next (fun k => by rw [tapearchiveref32_Used.l0]) (Ev.pos (by omega) (Ev.pos (by omega) ?_))
      rw [rd66 h, wrap_in (by omega) (by omega)]
      by_cases e : l[i].f3 = o
      · refine Ev.pos ((tl_iff _ _).2 e) (Ev.bindS (size_f _) ?_)
        have e2 : wrap64 (used o (l.take i) + (if num l[i].f5 = true then l[i].f5 else 0)) = used o (l.take (i + 1)) := by
          rw [st]
          by_cases c : num l[i].f5 = true
          · rw [if_pos c, if_pos ⟨e, c⟩]
            have := num_le c
            exact wrap_in (by omega) (by omega)
          · rw [if_neg c, if_neg (fun h => c h.2)]
            exact wrap_in (by omega) (by omega)
        rw [e2]
        exact ih (i + 1) (by omega)
      · refine Ev.neg (fun q => e ((tl_iff _ _).1 q)) ?_
        rw [if_neg (fun h => e h.1), Int.add_zero] at st
        rw [← st]
        exact ih (i + 1) (by omega)
  exact go l.length 0 (by omega)
theorem refLimit_ev (l : List S55) (o : ByteArray) (hl : l.length ≤ 1000) : Ev (fun k => tapearchiveref32_Limit.f k l o) (lim o l) := by
  unfold tapearchiveref32_Limit.f
  have go : ∀ (d i : Nat), i + d = l.length → Ev (fun k => tapearchiveref32_Limit.l0 k l o (i : Int)) (lim o (l.drop i)) := by
    intro d
    induction d with
    | zero =>
      intro i hi
      refine Ev.next (fun k => by rw [tapearchiveref32_Limit.l0]) (Ev.neg (by omega) (Ev.done fun _ => ?_))
      rw [List.drop_of_length_le (by omega)]
      rfl
    | succ d ih =>
      intro i hi
      have h : i < l.length := by omega
      refine Ev.next (fun k => by rw [tapearchiveref32_Limit.l0]) (Ev.pos (by omega) (Ev.pos (by omega) ?_))
      rw [rd55 h, wrap_in (by omega) (by omega), List.drop_eq_getElem_cons h]
      unfold lim
      by_cases e : l[i].f0 = o
      · rw [if_pos e]
        exact Ev.pos ((tl_iff _ _).2 e) (Ev.done fun _ => rfl)
      · rw [if_neg e]
        exact Ev.neg (fun q => e ((tl_iff _ _).1 q)) (ih (i + 1) (by omega))
  exact go l.length 0 (by omega)
section
variable (a0 a1 a2 : Int) (l3 : List S66) (l4 : List S133) (l5 : List S135) (l6 : List S137) (l7 : List S139) (l8 : List S141) (l9 : List S55) (l10 : List S143) (m1 : List ByteArray) (m2 : List Int)
theorem few_f : tapearchivelaw32_few.f a0 a1 a2 l3 l4 l5 l6 l7 l8 l9 l10 = some (a0, a1, a2, l3.take 60, l4, l5, l6, l7, l8, l9.take 60, l10) := by
  unfold tapearchivelaw32_few.f
  by_cases c1 : (l3.length : Int) > 60
  · rw [if_pos c1, if_pos (by omega), Option.bind_some]
    by_cases c2 : (l9.length : Int) > 60
    · rw [if_pos c2, if_pos (by omega)]; try rfl
    · rw [if_neg c2, List.take_of_length_le (l := l9) (by omega)]; try rfl
  · rw [if_neg c1, List.take_of_length_le (l := l3) (by omega)]
    by_cases c2 : (l9.length : Int) > 60
    · rw [if_pos c2, if_pos (by omega)]; try rfl
    · rw [if_neg c2, List.take_of_length_le (l := l9) (by omega)]; try rfl
end
theorem same_ev (l : List Int) (hl : l.length ≤ 1000000) : Ev (fun k => tapearchivelaw32_same.f k l l) true := by
  unfold tapearchivelaw32_same.f
  refine Ev.pos rfl ?_
  have go : ∀ (d i : Nat), i + d = l.length → Ev (fun k => tapearchivelaw32_same.l0 k l l (i : Int)) true := by
    intro d
    induction d with
    | zero =>
      intro i hi
      exact Ev.next (fun k => by rw [tapearchivelaw32_same.l0]) (Ev.neg (by omega) (Ev.done fun _ => rfl))
    | succ d ih =>
      intro i hi
      refine Ev.next (fun k => by rw [tapearchivelaw32_same.l0]) (Ev.pos (by omega) (Ev.pos (by omega) (Ev.pos (by omega) (Ev.pos rfl ?_))))
      rw [wrap_in (by omega) (by omega), cast_succ]
      exact ih (i + 1) (by omega)
  exact go l.length 0 (by omega)
theorem awake_ev : Ev (fun k => tapearchivelaw32_awake.f k) true := by
  unfold tapearchivelaw32_awake.f
  refine Ev.bindS rfl (Ev.bindS rfl (Ev.bindS (a := (1, 20)) (by kernel_rfl) (Ev.bindS (a := ([4, 3, 3], 0)) (by kernel_rfl) (Ev.bindS (a := (100, true)) (by kernel_rfl) (Ev.bindS (a := 60) (by kernel_rfl) ?_)))))
  refine Ev.pos rfl (Ev.pos rfl (Ev.pos rfl (Ev.pos rfl (Ev.both (same_ev [4, 3, 3] (by simp)) (Ev.pos rfl (Ev.pos rfl (Ev.done fun _ => rfl)))))))
end Go.Proofs.Ytbadelcnaeijkaa.Quo
end
section
namespace Go.Proofs.Ytbadelcnaeijkaa.Quo
open Go.RowKit Go.Proofs.Ytbadelcnaeijkaa.Q Go.Proofs.YtbadelcnaeijkaaW.PrintWords Go.Proofs.YtbadelcnaeijkaaW.PrintMore Go.Proofs.YtbadelcnaeijkaaW.EvMore
theorem less_iff (x y : ByteArray) : Op.bytesLess x.toList y.toList = true ↔ ltB x y := by
  rw [bytesLess_eq, decide_eq_true_eq, toList_bs, toList_bs]
  rfl
theorem lim_true (s : ByteArray) : ∀ l : List S55, (∃ x ∈ l, x.f0 = s) → (lim s l).2 = true
  | [], h => by obtain ⟨x, hx, _⟩ := h; cases hx
  | x :: l, h => by
    unfold lim
    by_cases c : x.f0 = s
    · rw [if_pos c]
    · rw [if_neg c]
      obtain ⟨y, hy, e⟩ := h
      rcases List.mem_cons.1 hy with rfl | hy
      · exact absurd e c
      · exact lim_true s l ⟨y, hy, e⟩
theorem insB_cons (s x : ByteArray) (xs : List ByteArray) : insB s (x :: xs) = if ltB x s then x :: insB s xs else if x = s then x :: xs else s :: x :: xs := rfl
theorem insB_length (s : ByteArray) : ∀ l, (insB s l).length ≤ l.length + 1
  | [] => by simp [insB]
  | x :: xs => by
    unfold insB
    have := insB_length s xs
    split
    · simp; omega
    · split <;> simp
theorem overFold_length (l3 : List S66) (l9 : List S55) : ∀ (l : List S55) (out : List ByteArray), (l.foldl (overStep l3 l9) out).length ≤ out.length + l.length
  | [], out => by simp
  | x :: l, out => by
    rw [List.foldl_cons]
    have h := overFold_length l3 l9 l (overStep l3 l9 out x)
    have h2 : (overStep l3 l9 out x).length ≤ out.length + 1 := by
      unfold overStep
      split
      · exact insB_length _ _
      · omega
    rw [List.length_cons]
    omega
section
variable (a0 a1 a2 : Int) (l3 : List S66) (l4 : List S133) (l5 : List S135) (l6 : List S137) (l7 : List S139) (l8 : List S141) (l9 : List S55) (l10 : List S143)
theorem refOver_ev (h3 : l3.length ≤ 1000) (h9 : l9.length ≤ 1000) : Ev (fun k => tapearchiveref32_Over.f k a0 a1 a2 l3 l4 l5 l6 l7 l8 l9 l10) (overS l3 l9) := by
  unfold tapearchiveref32_Over.f
  have L1 : ∀ (i : Nat), i < l9.length → ∀ (s : ByteArray) (out : List ByteArray), out.length ≤ 1000 → ∀ r : List ByteArray, Ev (fun k => tapearchiveref32_Over.l0 k (insB s out) ((i + 1 : Nat) : Int) a0 a1 a2 l3 l4 l5 l6 l7 l8 l9 l10) r →
      ∀ (d j : Nat), j + d = out.length → insB s out = out.take j ++ insB s (out.drop j) → Ev (fun k => tapearchiveref32_Over.l1 k out (i : Int) s (j : Int) a0 a1 a2 l3 l4 l5 l6 l7 l8 l9 l10) r := by
    intro i hi9 s out hout r hr d
    induction d with
    | zero =>
      intro j hj hins
      rw [List.drop_of_length_le (by omega)] at hins
      refine Ev.next (fun k => by rw [tapearchiveref32_Over.l1]) (Ev.neg (by omega) ?_)
      simp only [Option.bind_some, Int.toNat_natCast, List.nil_append, List.length_nil, Nat.zero_add]
      refine Ev.pos (by omega) (Ev.pos (by omega) (Ev.pos ?_ (Ev.pos ?_ (Ev.pos ?_ ?_))))
      · simp; omega
      · simp; omega
      · simp; omega
      · rw [wrap_in (by omega) (by omega), cast_succ, List.append_assoc]
        rw [hins] at hr
        rw [List.drop_of_length_le (by omega), List.append_nil]
        exact hr
    | succ d ih =>
      intro j hj hins
      have h : j < out.length := by omega
      refine Ev.next (fun k => by rw [tapearchiveref32_Over.l1]) (Ev.pos (by omega) (Ev.pos (by omega) ?_))
      rw [rdB h]
      rw [List.drop_eq_getElem_cons h, insB_cons] at hins
      by_cases c : ltB out[j] s
      · refine Ev.pos ((less_iff _ _).2 c) ?_
        rw [if_pos c] at hins
        rw [wrap_in (by omega) (by omega), cast_succ]
        refine ih (j + 1) (by omega) ?_
        rw [List.take_succ_eq_append_getElem h, List.append_assoc]
        exact hins
      · refine Ev.neg (fun q => c ((less_iff _ _).1 q)) ?_
        rw [if_neg c] at hins
        by_cases e : out[j] = s
        · refine Ev.pos ((tl_iff _ _).2 e) ?_
          rw [if_pos e, ← List.drop_eq_getElem_cons h, List.take_append_drop] at hins
          rw [wrap_in (by omega) (by omega), cast_succ]
          rw [hins] at hr
          exact hr
        · refine Ev.neg (fun q => e ((tl_iff _ _).1 q)) ?_
          rw [if_neg e, ← List.drop_eq_getElem_cons h] at hins
          simp only [Option.bind_some, Int.toNat_natCast, List.nil_append, List.length_nil, Nat.zero_add]
          refine Ev.pos (by omega) (Ev.pos ?_ (Ev.pos ?_ (Ev.pos ?_ ?_)))
          · simp; omega
          · simp; omega
          · simp; omega
          · rw [wrap_in (by omega) (by omega), cast_succ, List.append_assoc]
            rw [hins] at hr
            exact hr
  have L0 : ∀ (d i : Nat), i + d = l9.length → Ev (fun k => tapearchiveref32_Over.l0 k ((l9.take i).foldl (overStep l3 l9) []) (i : Int) a0 a1 a2 l3 l4 l5 l6 l7 l8 l9 l10) (overS l3 l9) := by
    intro d
    induction d with
    | zero =>
      intro i hi
      refine Ev.next (fun k => by rw [tapearchiveref32_Over.l0]) (Ev.neg (by omega) (Ev.done fun _ => ?_))
      rw [List.take_of_length_le (by omega)]
      rfl
    | succ d ih =>
      intro i hi
      have h : i < l9.length := by omega
      have hfold : (l9.take (i + 1)).foldl (overStep l3 l9) [] = overStep l3 l9 ((l9.take i).foldl (overStep l3 l9) []) l9[i] := by
        rw [List.take_succ_eq_append_getElem h, List.foldl_append]
        rfl
      have hlt := lim_true l9[i].f0 l9 ⟨l9[i], List.getElem_mem h, rfl⟩
      have ih2 := ih (i + 1) (by omega)
      rw [hfold] at ih2
      have hlen : ((l9.take i).foldl (overStep l3 l9) []).length ≤ 1000 := by
        have := overFold_length l3 l9 (l9.take i) []
        rw [List.length_take] at this
        simp at this
        omega
      generalize (l9.take i).foldl (overStep l3 l9) [] = out at *
      refine Ev.next (fun k => by rw [tapearchiveref32_Over.l0]) (Ev.pos (by omega) (Ev.pos (by omega) ?_))
      rw [rd55 h]
      refine Ev.both (refLimit_ev l9 _ h9) (Ev.both (refUsed_ev l3 _ h3) ?_)
      by_cases c : used l9[i].f0 l3 ≤ (lim l9[i].f0 l9).1
      · refine Ev.pos c ?_
        rw [wrap_in (by omega) (by omega), cast_succ]
        have e : overStep l3 l9 out l9[i] = out := by
          unfold overStep exO exc
          rw [hlt, Bool.true_and, if_neg (by simp; omega)]
        rw [e] at ih2
        exact ih2
      · refine Ev.neg c ?_
        have e : overStep l3 l9 out l9[i] = insB l9[i].f0 out := by
          unfold overStep exO exc
          rw [hlt, Bool.true_and, if_pos (by simp; omega)]
        rw [e] at ih2
        exact L1 i h l9[i].f0 out hlen _ ih2 out.length 0 (by omega) (by simp)
  exact L0 l9.length 0 (by omega)
theorem over_f (h : overOk l3 l9) : quota_Over.f a0 a1 a2 l3 l4 l5 l6 l7 l8 l9 l10 = some (overS l3 l9) := if_pos h
end
theorem texts_ev (l : List ByteArray) (hl : l.length ≤ 1000000) : Ev (fun k => tapearchivelaw32_texts.f k l l) true := by
  unfold tapearchivelaw32_texts.f
  refine Ev.pos rfl ?_
  have go : ∀ (d i : Nat), i + d = l.length → Ev (fun k => tapearchivelaw32_texts.l0 k l l (i : Int)) true := by
    intro d
    induction d with
    | zero =>
      intro i hi
      exact Ev.next (fun k => by rw [tapearchivelaw32_texts.l0]) (Ev.neg (by omega) (Ev.done fun _ => rfl))
    | succ d ih =>
      intro i hi
      refine Ev.next (fun k => by rw [tapearchivelaw32_texts.l0]) (Ev.pos (by omega) (Ev.pos (by omega) (Ev.pos (by omega) (Ev.pos rfl ?_))))
      rw [wrap_in (by omega) (by omega), cast_succ]
      exact ih (i + 1) (by omega)
  exact go l.length 0 (by omega)
end Go.Proofs.Ytbadelcnaeijkaa.Quo
end
section
namespace Go.Proofs.Ytbadelcnaeijkaa.Quo
open Go.RowKit Go.Proofs.Ytbadelcnaeijkaa.Q Go.Proofs.YtbadelcnaeijkaaW.PrintWords Go.Proofs.YtbadelcnaeijkaaW.PrintMore Go.Proofs.YtbadelcnaeijkaaW.EvMore
theorem limit_f (l : List S55) (o : ByteArray) (h : l.length ≤ 1000) : quota_Limit.f l o = some (lim o l) := if_pos (by omega)
theorem used_f (l : List S66) (o : ByteArray) (h : usedOk l) (ho : o.size ≤ 140737488351232) : quota_Used.f l o = some (used o l) := if_pos ⟨h, ho⟩
theorem overS_length (l3 : List S66) (l9 : List S55) : (overS l3 l9).length ≤ l9.length := by
  have := overFold_length l3 l9 l9 []
  simpa [overS] using this
theorem uses : Go.Proofs.Ytbadelcnaeijkaa.SQuotaUses.Pure := by
  intro x0 x1 hx h1
  have hu : usedOk (x0.f3.take 60) := ⟨by rw [List.length_take]; omega, fun x hm => (hx.2.2.2.1.2.2 x ((List.take_sublist _ _).subset hm)).2.2.2.1⟩
  have h9 : (x0.f9.take 60).length ≤ 60 := by rw [List.length_take]; omega
  have h3 : (x0.f3.take 60).length ≤ 60 := by rw [List.length_take]; omega
  have hov : overOk (x0.f3.take 60) (x0.f9.take 60) := ⟨hu, by omega, fun x hm => (hx.2.2.2.2.2.2.2.2.2.1.2.2 x ((List.take_sublist _ _).subset hm)).1⟩
  refine Ev.get (f := fun k => tapearchivelaw32_QuotaUses.f k x0.f0 x0.f1 x0.f2 x0.f3 x0.f4 x0.f5 x0.f6 x0.f7 x0.f8 x0.f9 x0.f10 x1) ?_
  unfold tapearchivelaw32_QuotaUses.f
  refine Ev.bindS (few_f _ _ _ _ _ _ _ _ _ _ _) ?_
  refine Ev.bindS (limit_f (x0.f9.take 60) x1 (by omega)) ?_
  refine Ev.both (refLimit_ev (x0.f9.take 60) x1 (by omega)) ?_
  refine Ev.bindS (used_f (x0.f3.take 60) x1 hu h1) ?_
  refine Ev.both (refUsed_ev (x0.f3.take 60) x1 (by omega)) ?_
  refine Ev.pos rfl (Ev.pos rfl (Ev.pos (by simp) ?_))
  refine Ev.bindS (over_f _ _ _ (x0.f3.take 60) _ _ _ _ _ (x0.f9.take 60) _ hov) ?_
  refine Ev.both (refOver_ev _ _ _ (x0.f3.take 60) _ _ _ _ _ (x0.f9.take 60) _ (by omega) (by omega)) ?_
  refine Ev.both (texts_ev _ (by have := overS_length (x0.f3.take 60) (x0.f9.take 60); omega)) ?_
  exact Ev.pos rfl (Ev.both awake_ev (Ev.done fun _ => rfl))
end Go.Proofs.Ytbadelcnaeijkaa.Quo
namespace Go.Proofs.Ytbadelcnaeijkaa.Pure
theorem QuotaUses : Go.Proofs.Ytbadelcnaeijkaa.SQuotaUses.Pure := Quo.uses
end Go.Proofs.Ytbadelcnaeijkaa.Pure
end
