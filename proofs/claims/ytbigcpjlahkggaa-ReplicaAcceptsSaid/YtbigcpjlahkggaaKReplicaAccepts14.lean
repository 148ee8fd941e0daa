import Derived.Test.YtbigcpjlahkggaaKReplicaAccepts13
set_option linter.unusedVariables false
set_option linter.unusedSimpArgs false
section
namespace Go.Proofs.Ytbigcpjlahkggaa.SReplicaAccepts
open Go.RowKit Go.Proofs.Ytbigcpjlahkggaa.Q Go.Proofs.YtbigcpjlahkggaaW.PrintWords Go.Proofs.YtbigcpjlahkggaaW.PrintLast Go.Proofs.YtbigcpjlahkggaaW.Opens Go.Proofs.YtbigcpjlahkggaaW
set_option linter.unusedVariables false
def Wf_t78 (x : S79) : Prop := (Lit.int .i64 x.f0).wf = true ∧ (x.f1.length ≤ maxLen ∧ x.f1.length * 1 ≤ 140737488351232 ∧ ∀ y ∈ x.f1, (Lit.int .u8 y).wf = true)
theorem open_t79 (n : Nat) : OpensN Try.prog n 79 k79 Wf_t78 :=
  Opens.opens_le (Opens.opens_struct (n := n) Try.underlying79 (by kernel_rfl) (fun y => ⟨⟨y.1, y.2⟩, rfl⟩) (Opens.opensF_cons rfl (by kernel_rfl) (Opens.opens_int n Try.underlying3) (Opens.opensF_one rfl (by kernel_rfl) (Opens.opens_le (Opens.opens_slice (n := n) (B := 1) Try.underlying25 (by kernel_rfl) (by kernel_rfl) (Opens.opens_int n Try.underlying5)) (Nat.le_succ n))))) (Nat.le_succ n)
def Wf_t23 (x : S24) : Prop := (Lit.int .i64 x.f0).wf = true ∧ (Lit.int .i64 x.f1).wf = true ∧ (x.f2.length ≤ maxLen ∧ x.f2.length * 32 ≤ 140737488351232 ∧ ∀ y ∈ x.f2, Wf_t78 y)
theorem open_t24 (n : Nat) : OpensN Try.prog n 24 k24 Wf_t23 :=
  Opens.opens_le (Opens.opens_struct (n := n) Try.underlying24 (by kernel_rfl) (fun y => ⟨⟨y.1, y.2.1, y.2.2⟩, rfl⟩) (Opens.opensF_cons rfl (by kernel_rfl) (Opens.opens_int n Try.underlying3) (Opens.opensF_cons rfl (by kernel_rfl) (Opens.opens_int n Try.underlying3) (Opens.opensF_one rfl (by kernel_rfl) (Opens.opens_le (Opens.opens_slice (n := n) (B := 32) Try.underlying22 (by kernel_rfl) (by kernel_rfl) (open_t79 n)) (Nat.le_succ n)))))) (Nat.le_succ n)
def Wf_t37 (x : S38) : Prop := (Lit.int .i64 x.f0).wf = true ∧ (Lit.int .i64 x.f1).wf = true ∧ (Lit.int .i64 x.f2).wf = true ∧ (x.f3.length ≤ maxLen ∧ x.f3.length * 32 ≤ 140737488351232 ∧ ∀ y ∈ x.f3, Wf_t78 y) ∧ (Lit.int .i64 x.f4).wf = true
theorem open_t38 (n : Nat) : OpensN Try.prog n 38 k38 Wf_t37 :=
  Opens.opens_le (Opens.opens_struct (n := n) Try.underlying38 (by kernel_rfl) (fun y => ⟨⟨y.1, y.2.1, y.2.2.1, y.2.2.2.1, y.2.2.2.2⟩, rfl⟩) (Opens.opensF_cons rfl (by kernel_rfl) (Opens.opens_int n Try.underlying3) (Opens.opensF_cons rfl (by kernel_rfl) (Opens.opens_int n Try.underlying3) (Opens.opensF_cons rfl (by kernel_rfl) (Opens.opens_int n Try.underlying3) (Opens.opensF_cons rfl (by kernel_rfl) (Opens.opens_le (Opens.opens_slice (n := n) (B := 32) Try.underlying22 (by kernel_rfl) (by kernel_rfl) (open_t79 n)) (Nat.le_succ n)) (Opens.opensF_one rfl (by kernel_rfl) (Opens.opens_int n Try.underlying3))))))) (Nat.le_succ n)
def Pure : Prop := ∀ (x0 : S24) (x1 : S38), Wf_t23 x0 → Wf_t37 x1 → ∃ k, tapearchivelaw26_ReplicaAccepts.f k x0.f0 x0.f1 x0.f2 x1.f0 x1.f1 x1.f2 x1.f3 x1.f4 = some true
end Go.Proofs.Ytbigcpjlahkggaa.SReplicaAccepts
end
section
namespace Go.Proofs.Ytbigcpjlahkggaa.Rep
open Go.RowKit Go.Proofs.Ytbigcpjlahkggaa.Q Go.Proofs.YtbigcpjlahkggaaW.PrintWords Go.Proofs.YtbigcpjlahkggaaW.PrintMore Go.Proofs.YtbigcpjlahkggaaW.EvMore
def toP (x : S79) : S87 := ⟨x.f0, x.f1⟩
def toR (x : S87) : S79 := ⟨x.f0, x.f1⟩
def cv (l : List S79) : List S87 := l.map toP
def uc (l : List S87) : List S79 := l.map toR
theorem cv_uc (l : List S87) : cv (uc l) = l := by
  unfold cv uc
  rw [List.map_map]
  conv => rhs; rw [← List.map_id l]
  exact List.map_congr_left fun x _ => rfl
theorem uc_cv (l : List S79) : uc (cv l) = l := by
  unfold cv uc
  rw [List.map_map]
  conv => rhs; rw [← List.map_id l]
  exact List.map_congr_left fun x _ => rfl
theorem cv_length (l : List S79) : (cv l).length = l.length := List.length_map _
theorem uc_length (l : List S87) : (uc l).length = l.length := List.length_map _
theorem uc_drop (l : List S87) (n : Nat) : uc (l.drop n) = (uc l).drop n := List.map_drop ..
theorem uc_take (l : List S87) (n : Nat) : uc (l.take n) = (uc l).take n := List.map_take ..
theorem uc_append (l m : List S87) : uc (l ++ m) = uc l ++ uc m := List.map_append ..
theorem rdP {l : List S87} {i : Nat} (h : i < l.length) : rd_T87 l (i : Int) = l[i] := by
  unfold rd_T87
  rw [Int.toNat_natCast, List.getD_eq_getElem?_getD, List.getElem?_eq_getElem h]
  rfl
theorem rdR {l : List S79} {i : Nat} (h : i < l.length) : rd_T79 l (i : Int) = toR ((cv l)[i]'(by rw [cv_length]; exact h)) := by
  unfold rd_T79
  rw [Int.toNat_natCast, List.getD_eq_getElem?_getD, List.getElem?_eq_getElem h]
  simp [cv, toR, toP]
def num (n : Int) : Bool := decide (0 ≤ n) && decide (n ≤ 1125899906842624)
def asc : List S87 → Int → Int → Bool
  | [], _, _ => true
  | x :: l, a, b => !(decide (x.f0 < a)) && (!(decide (x.f0 > b)) && (!(decide ((x.f1.length : Int) > 65536)) && asc l x.f0 b))
def vnode (e k : Int) (l : List S87) : Bool := num e && (asc l 1 e && (decide (0 ≤ k) && decide (k ≤ (l.length : Int))))
def endS (l : List S87) (n : Int) : Int := if n = 0 then 0 else (l.getD (n - 1).toNat z87).f0
def vmsg (e b s : Int) (l : List S87) (k : Int) : Bool :=
  decide (1 ≤ e) && (num e && (num b && (num k && ((!(decide (b = 0)) || decide (s = 0)) && ((!(decide (0 < b)) || (decide (1 ≤ s) && decide (s ≤ e))) && asc l (mx s 1) e)))))
def offerS (e k : Int) (l : List S87) (from_ : Int) : Int × Int × Int × List S87 × Int × Int :=
  if vnode e k l = true then
    if e = 0 then (0, 0, 0, [], 0, 13)
    else if from_ < 0 ∨ from_ > (l.length : Int) then (0, 0, 0, [], 0, 7)
    else (e, from_, endS l from_, l.drop from_.toNat, k, 0)
  else (0, 0, 0, [], 0, 8)
def appendS (e k : Int) (l : List S87) (b : List Int) : Int × Int × List S87 × Int :=
  if vnode e k l = true then
    if e = 0 then (0, 0, [], 13)
    else if (b.length : Int) > 65536 then (0, 0, [], 6)
    else (e, k, l ++ [⟨e, b⟩], 0)
  else (0, 0, [], 8)
def common : List S87 → List S87 → Nat
  | x :: l, y :: m => if x.f0 = y.f0 then common l m + 1 else 0
  | _, _ => 0
theorem common_le : ∀ l m : List S87, common l m ≤ l.length ∧ common l m ≤ m.length
  | [], m => by simp [common]
  | x :: l, [] => by simp [common]
  | x :: l, y :: m => by
    have := common_le l m
    unfold common
    split
    · simp; omega
    · simp
def acceptS (e k : Int) (l : List S87) (me mb ms : Int) (ml : List S87) (mk : Int) : Int × Int × List S87 × Int × Int :=
  if vnode e k l = true ∧ vmsg me mb ms ml mk = true then
    if me < e then (0, 0, [], 0, 22)
    else if (l.length : Int) < mb ∨ endS l mb ≠ ms then (0, 0, [], 0, 9)
    else
      let same := common (l.drop mb.toNat) ml
      let all := mb + (ml.length : Int)
      if same < ml.length then
        if mb + (same : Int) < k then (0, 0, [], 0, 21)
        else (me, mx k (mn mk all), l.take (mb.toNat + same) ++ ml.drop same, all, 0)
      else (me, mx k (mn mk all), l, all, 0)
  else (0, 0, [], 0, 8)
def betterS (a b : S35) : Bool := decide (endS a.f2 a.f2.length > endS b.f2 b.f2.length) || (decide (endS a.f2 a.f2.length = endS b.f2 b.f2.length) && decide (a.f2.length > b.f2.length))
def elGo (l : List S35) (ans : List Bool) : Nat → Nat → Int → Int → Int → Int × Int × Int
  | 0, _, b, c, e => (b, c, e)
  | d + 1, i, b, c, e =>
    if ans.getD i false = true then elGo l ans d (i + 1) (if b < 0 ∨ betterS (l.getD i z35) (l.getD b.toNat z35) = true then (i : Int) else b) (c + 1) (mx e (l.getD i z35).f0)
    else elGo l ans d (i + 1) b c e
def vn (x : S35) : Bool := vnode x.f0 x.f1 x.f2
def elFin (l : List S35) (b c e : Int) : Int × Int × Int × List S87 × Int :=
  if 2 * c ≤ (l.length : Int) then (0, 0, 0, [], 13)
  else if e = 1125899906842624 then (0, 0, 0, [], 7)
  else (b, e + 1, (l.getD b.toNat z35).f1, (l.getD b.toNat z35).f2, 0)
def elRes (l : List S35) (r : Int × Int × Int) : Int × Int × Int × List S87 × Int := elFin l r.1 r.2.1 r.2.2
def electS (l : List S35) (ans : List Bool) : Int × Int × Int × List S87 × Int :=
  if l = [] ∨ ans.length ≠ l.length ∨ l.all vn ≠ true then (0, 0, 0, [], 8)
  else elRes l (elGo l ans l.length 0 (-1) 0 0)
theorem elGo_zero (l : List S35) (ans : List Bool) (i : Nat) (b c e : Int) : elRes l (elGo l ans 0 i b c e) = elFin l b c e := rfl
theorem elGo_succ (l : List S35) (ans : List Bool) (d i : Nat) (b c e : Int) : elGo l ans (d + 1) i b c e =
    if ans.getD i false = true then elGo l ans d (i + 1) (if b < 0 ∨ betterS (l.getD i z35) (l.getD b.toNat z35) = true then (i : Int) else b) (c + 1) (mx e (l.getD i z35).f0)
    else elGo l ans d (i + 1) b c e := rfl
theorem elGo_no {l : List S35} {ans : List Bool} {d i : Nat} {b c e : Int} (h : ans.getD i false = false) : elGo l ans (d + 1) i b c e = elGo l ans d (i + 1) b c e := by
  rw [elGo_succ, h, if_neg (by simp)]
theorem elGo_new {l : List S35} {ans : List Bool} {d i : Nat} {b c e : Int} (h : ans.getD i false = true) (hb : b < 0 ∨ betterS (l.getD i z35) (l.getD b.toNat z35) = true) : elGo l ans (d + 1) i b c e = elGo l ans d (i + 1) (i : Int) (c + 1) (mx e (l.getD i z35).f0) := by
  rw [elGo_succ, if_pos h, if_pos hb]
theorem elGo_old {l : List S35} {ans : List Bool} {d i : Nat} {b c e : Int} (h : ans.getD i false = true) (hb : ¬ b < 0) (h2 : betterS (l.getD i z35) (l.getD b.toNat z35) = false) : elGo l ans (d + 1) i b c e = elGo l ans d (i + 1) b (c + 1) (mx e (l.getD i z35).f0) := by
  rw [elGo_succ, if_pos h, if_neg (by rw [not_or]; exact ⟨hb, by rw [h2]; simp⟩)]
def down (l : List S87) (e : Int) : Nat → Nat
  | 0 => 0
  | n + 1 => if (l.getD n z87).f0 = e then n + 1 else down l e n
def clamp (n : Int) (m : Int) : Int := mx 0 (mn m n)
def median (m : List Int) (n : Int) : Int := if m = [] then 0 else ((m.map (clamp n)).mergeSort fun x y => decide (x ≤ y)).getD ((m.length - 1) / 2) 0
def commitS (e k : Int) (l : List S87) (m : List Int) : Int := if vnode e k l = true then mx (down l e (median m l.length).toNat) k else 0
theorem clamp_in (n : Int) (h : 0 ≤ n) (m : Int) : 0 ≤ clamp n m ∧ clamp n m ≤ n := by
  unfold clamp mx mn
  constructor
  · split <;> split <;> omega
  · split <;> split <;> omega
theorem clamp_ge (n : Int) (m k : Int) (h1 : 1 ≤ k) (h2 : k ≤ n) : k ≤ clamp n m ↔ k ≤ m := by
  unfold clamp mx mn
  split <;> split <;> omega
theorem sorted_count (s : List Int) (hs : s.Pairwise (· ≤ ·)) (k : Int) (i : Nat) (hi : i < s.length) : k ≤ s[i] ↔ s.length - i ≤ s.countP (fun x => decide (k ≤ x)) := by
  have e : s = s.take i ++ s.drop i := (List.take_append_drop i s).symm
  constructor
  · intro h
    have h1 : (s.drop i).countP (fun x => decide (k ≤ x)) = (s.drop i).length := by
      rw [List.countP_eq_length]
      intro x hx
      obtain ⟨j, hj, rfl⟩ := List.getElem_of_mem hx
      rw [List.getElem_drop]
      rw [List.length_drop] at hj
      simp only [decide_eq_true_eq]
      by_cases hz : j = 0
      · subst hz; exact h
      · have := List.pairwise_iff_getElem.1 hs i (i + j) hi (by omega) (by omega)
        omega
    rw [List.length_drop] at h1
    rw [e, List.countP_append, ← e, h1]
    omega
  · intro h
    by_cases hk : k ≤ s[i]
    · exact hk
    · have h1 : (s.take (i + 1)).countP (fun x => decide (k ≤ x)) = 0 := by
        rw [List.countP_eq_zero]
        intro x hx
        obtain ⟨j, hj, rfl⟩ := List.getElem_of_mem hx
        rw [List.getElem_take]
        rw [List.length_take] at hj
        simp only [decide_eq_true_eq]
        by_cases hz : j = i
        · subst hz; exact hk
        · have := List.pairwise_iff_getElem.1 hs j i (by omega) hi (by omega)
          omega
      have e2 : s = s.take (i + 1) ++ s.drop (i + 1) := (List.take_append_drop (i + 1) s).symm
      rw [e2, List.countP_append, h1, ← e2] at h
      have := List.countP_le_length (p := fun x => decide (k ≤ x)) (l := s.drop (i + 1))
      rw [List.length_drop] at this
      omega
theorem median_ge (m : List Int) (n k : Int) (h1 : 1 ≤ k) (h2 : k ≤ n) : k ≤ median m n ↔ m.length / 2 < m.countP (fun x => decide (k ≤ x)) := by
  unfold median
  split
  · rename_i h; subst h; simp; omega
  · rename_i h
    have hl : 0 < m.length := List.length_pos_iff.2 h
    have hsl : ((m.map (clamp n)).mergeSort fun x y => decide (x ≤ y)).length = m.length := by rw [List.length_mergeSort, List.length_map]
    have hp : ((m.map (clamp n)).mergeSort fun x y => decide (x ≤ y)).countP (fun x => decide (k ≤ x)) = m.countP (fun x => decide (k ≤ x)) := by
      rw [(List.mergeSort_perm _ _).countP_eq, List.countP_map]
      apply List.countP_congr
      intro x _
      simp only [Function.comp, decide_eq_true_eq]
      exact clamp_ge n x k h1 h2
    have hs : ((m.map (clamp n)).mergeSort fun x y => decide (x ≤ y)).Pairwise (· ≤ ·) := by
      have := List.pairwise_mergeSort (le := fun (x y : Int) => decide (x ≤ y)) (fun a b c h1 h2 => by simp at h1 h2 ⊢; omega) (fun a b => by simp; omega) (m.map (clamp n))
      exact this.imp fun h => by simpa using h
    generalize ((m.map (clamp n)).mergeSort fun x y => decide (x ≤ y)) = s at hsl hp hs
    have hi : (m.length - 1) / 2 < s.length := by omega
    have := sorted_count s hs k _ hi
    rw [List.getD_eq_getElem?_getD, List.getElem?_eq_getElem hi, Option.getD_some, this, hp]
    omega
theorem median_in (m : List Int) (n : Int) (h : 0 ≤ n) : 0 ≤ median m n ∧ median m n ≤ n := by
  unfold median
  split
  · omega
  · rename_i hm
    have hl : 0 < m.length := List.length_pos_iff.2 hm
    have hi : (m.length - 1) / 2 < ((m.map (clamp n)).mergeSort fun x y => decide (x ≤ y)).length := by rw [List.length_mergeSort, List.length_map]; omega
    rw [List.getD_eq_getElem?_getD, List.getElem?_eq_getElem hi, Option.getD_some]
    have := List.getElem_mem hi
    rw [List.mem_mergeSort] at this
    obtain ⟨x, _, hx⟩ := List.mem_map.1 this
    rw [← hx]
    exact clamp_in n h x
def prt {α : Type} (z : α) (R : List α) (k : Nat) : List α := R.take k ++ List.replicate (R.length - k) z
theorem prt_zero {α : Type} (z : α) (R : List α) : prt z R 0 = List.replicate R.length z := by simp [prt]
theorem prt_full {α : Type} (z : α) (R : List α) : prt z R R.length = R := by simp [prt]
theorem prt_length {α : Type} (z : α) (R : List α) (k : Nat) (h : k ≤ R.length) : (prt z R k).length = R.length := by simp [prt]; omega
theorem prt_set {α : Type} (z : α) (R : List α) (k : Nat) (h : k < R.length) (b : α) (hb : b = R[k]) : (prt z R k).set k b = prt z R (k + 1) := by
  subst hb
  unfold prt
  rw [List.set_append_right k _ (by rw [List.length_take]; omega), List.length_take, show k - min k R.length = 0 from by omega, show R.length - k = (R.length - (k + 1)) + 1 from by omega, List.replicate_succ, List.set_cons_zero, List.take_succ_eq_append_getElem h, List.append_assoc]
  rfl
end Go.Proofs.Ytbigcpjlahkggaa.Rep
end
section
namespace Go.Proofs.Ytbigcpjlahkggaa.Q
open Go.RowKit Go.Proofs.YtbigcpjlahkggaaW.PrintWords Go.Proofs.YtbigcpjlahkggaaW.PrintLast Go.Proofs.YtbigcpjlahkggaaW.PrintMore
attribute [local go_sem] max2_int min2_int max_two min_two max_three min_three max_four min_four
attribute [local go_sem ↓] isSome_setCell
attribute [local go_sem] string_gtr
set_option linter.unusedVariables false
set_option linter.unusedSimpArgs false
end Go.Proofs.Ytbigcpjlahkggaa.Q
end
section
namespace Go.Proofs.Ytbigcpjlahkggaa.Q
open Go.RowKit Go.Proofs.YtbigcpjlahkggaaW.PrintWords Go.Proofs.YtbigcpjlahkggaaW.PrintLast Go.Proofs.YtbigcpjlahkggaaW.PrintMore
attribute [local go_sem] max2_int min2_int max_two min_two max_three min_three max_four min_four
attribute [local go_sem ↓] isSome_setCell
attribute [local go_sem] string_gtr
set_option linter.unusedVariables false
set_option linter.unusedSimpArgs false
end Go.Proofs.Ytbigcpjlahkggaa.Q
end
section
namespace Go.Proofs.Ytbigcpjlahkggaa.Rep
open Go.RowKit Go.Proofs.Ytbigcpjlahkggaa.Q Go.Proofs.YtbigcpjlahkggaaW.PrintWords Go.Proofs.YtbigcpjlahkggaaW.PrintMore Go.Proofs.YtbigcpjlahkggaaW.EvMore
def sm (l : List S87) : Prop := l.length ≤ 1000000 ∧ ∀ x ∈ l, x.f1.length ≤ 1000000
theorem sm_drop {l : List S87} (h : sm l) (n : Nat) : sm (l.drop n) := ⟨by rw [List.length_drop]; have := h.1; omega, fun x hx => h.2 x ((List.drop_sublist n l).subset hx)⟩
theorem sm_get {l : List S87} (h : sm l) {i : Nat} (hi : i < l.length) : l[i].f1.length ≤ 1000000 := h.2 _ (List.getElem_mem hi)
theorem clone_f (b : List Int) (h : b.length ≤ 1000000) : slices_Clone_byte_byte.f b = some b := by
  unfold slices_Clone_byte_byte.f
  rw [if_pos (by omega)]
theorem number_f (n : Int) : replica_number.f n = some (num n) := by
  unfold replica_number.f num
  by_cases h : n ≥ 0
  · rw [if_pos h, decide_eq_true h, Bool.true_and]
  · rw [if_neg h, decide_eq_false h, Bool.false_and]
theorem copied_ev (l : List S87) (h : sm l) : Ev (fun k => replica_copied.f k l) l := by
  have hl := h.1
  unfold replica_copied.f
  rw [Int.toNat_natCast]
  refine Ev.pos (by omega) (Ev.pos (by omega) ?_)
  have go : ∀ (d i : Nat), i + d = l.length → Ev (fun k => replica_copied.l0 k (prt z87 l i) l (l.length : Int) (i : Int)) l := by
    intro d
    induction d with
    | zero =>
      intro i hi
      obtain rfl : i = l.length := by omega
      refine Ev.next (fun k => by rw [replica_copied.l0]) (Ev.neg (by omega) (Ev.done fun _ => ?_))
      rw [prt_full]
    | succ d ih =>
      intro i hi
      have hlt : i < l.length := by omega
      have hpl := prt_length z87 l i (by omega)
      refine Ev.next (fun k => by rw [replica_copied.l0]) (Ev.pos (by omega) (Ev.pos (by omega) (Ev.pos (by omega) ?_)))
      rw [rdP hlt]
      refine Ev.bindS (clone_f _ (sm_get h hlt)) (Ev.pos (by omega) ?_)
      rw [Int.toNat_natCast, prt_set z87 l i hlt _ rfl, wrap_in (by omega) (by omega)]
      exact ih (i + 1) (by omega)
  have := go l.length 0 (by omega)
  rw [prt_zero] at this
  exact this
theorem rcopied_ev (l : List S87) (h : sm l) : Ev (fun k => tapearchiveref26_copied.f k (uc l)) (uc l) := by
  have hl := h.1
  unfold tapearchiveref26_copied.f
  have go : ∀ (d i : Nat), i + d = l.length → Ev (fun k => tapearchiveref26_copied.l0 k (uc l) (uc (l.take i)) (i : Int)) (uc l) := by
    intro d
    induction d with
    | zero =>
      intro i hi
      obtain rfl : i = l.length := by omega
      refine Ev.next (fun k => by rw [tapearchiveref26_copied.l0]) (Ev.neg (by rw [uc_length]; omega) (Ev.done fun _ => ?_))
      rw [List.take_length]
    | succ d ih =>
      intro i hi
      have hlt : i < l.length := by omega
      have hb := sm_get h hlt
      refine Ev.next (fun k => by rw [tapearchiveref26_copied.l0]) (Ev.pos (by rw [uc_length]; omega) (Ev.pos (by omega) (Ev.bindS rfl ?_)))
      have hr : rd_T79 (uc l) (i : Int) = toR l[i] := by
        rw [rdR (by rw [uc_length]; exact hlt)]
        congr 1
        simp only [cv_uc]
      rw [hr]
      refine Ev.pos (by simp only [List.length_nil, toR]; omega) (Ev.pos (by rw [uc_length, List.length_take]; omega) ?_)
      have e : uc (l.take i) ++ [(⟨(toR l[i]).f0, [] ++ (toR l[i]).f1⟩ : S79)] = uc (l.take (i + 1)) := by
        rw [List.take_succ_eq_append_getElem hlt, uc_append]
        rfl
      rw [e, wrap_in (by omega) (by omega)]
      exact ih (i + 1) (by omega)
  exact go l.length 0 (by omega)
theorem records_ev (l : List S87) (h : sm l) : Ev (fun k => tapearchivelaw26_records.f k (uc l)) l := by
  have hl := h.1
  unfold tapearchivelaw26_records.f
  have go : ∀ (d i : Nat), i + d = l.length → Ev (fun k => tapearchivelaw26_records.l0 k (uc l) (l.take i) (i : Int)) l := by
    intro d
    induction d with
    | zero =>
      intro i hi
      obtain rfl : i = l.length := by omega
      refine Ev.next (fun k => by rw [tapearchivelaw26_records.l0]) (Ev.neg (by rw [uc_length]; omega) (Ev.done fun _ => ?_))
      rw [List.take_length]
    | succ d ih =>
      intro i hi
      have hlt : i < l.length := by omega
      have hb := sm_get h hlt
      refine Ev.next (fun k => by rw [tapearchivelaw26_records.l0]) (Ev.pos (by rw [uc_length]; omega) (Ev.pos (by omega) (Ev.bindS rfl ?_)))
      have hr : rd_T79 (uc l) (i : Int) = toR l[i] := by
        rw [rdR (by rw [uc_length]; exact hlt)]
        congr 1
        simp only [cv_uc]
      rw [hr]
      refine Ev.pos (by simp only [List.length_nil, toR]; omega) (Ev.pos (by rw [List.length_take]; omega) ?_)
      have e : l.take i ++ [(⟨(toR l[i]).f0, [] ++ (toR l[i]).f1⟩ : S87)] = l.take (i + 1) := by
        rw [List.take_succ_eq_append_getElem hlt]
        rfl
      rw [e, wrap_in (by omega) (by omega)]
      exact ih (i + 1) (by omega)
  exact go l.length 0 (by omega)
theorem rduc {l : List S87} {i : Nat} (hlt : i < l.length) : rd_T79 (uc l) (i : Int) = toR l[i] := by
  rw [rdR (by rw [uc_length]; exact hlt)]
  congr 1
  simp only [cv_uc]
theorem ascending_ev (l : List S87) (hl : l.length ≤ 1000000) (b : Int) : ∀ (d i : Nat) (a : Int), i + d = l.length → Ev (fun k => replica_ascending.l0 k a b l (l.length : Int) (i : Int)) (asc (l.drop i) a b) := by
  intro d
  induction d with
  | zero =>
    intro i a hi
    refine Ev.next (fun k => by rw [replica_ascending.l0]) (Ev.neg (by omega) (Ev.done fun _ => ?_))
    rw [List.drop_of_length_le (by omega)]
    rfl
  | succ d ih =>
    intro i a hi
    have hlt : i < l.length := by omega
    refine Ev.next (fun k => by rw [replica_ascending.l0]) (Ev.pos (by omega) (Ev.pos (by omega) (Ev.pos (by omega) ?_)))
    rw [rdP hlt, List.drop_eq_getElem_cons hlt]
    unfold asc
    have ih := ih (i + 1) l[i].f0 (by omega)
    by_cases h1 : l[i].f0 < a
    · exact Ev.pos h1 (Ev.done fun _ => by rw [decide_eq_true h1]; rfl)
    refine Ev.neg h1 ?_
    by_cases h2 : l[i].f0 > b
    · exact Ev.pos h2 (Ev.done fun _ => by rw [decide_eq_true h2]; simp)
    refine Ev.neg h2 ?_
    by_cases h3 : (l[i].f1.length : Int) > 65536
    · exact Ev.pos h3 (Ev.done fun _ => by rw [decide_eq_true h3]; simp)
    refine Ev.neg h3 ?_
    rw [wrap_in (by omega) (by omega), decide_eq_false h1, decide_eq_false h2, decide_eq_false h3]
    simpa using ih
theorem asc_ev (l : List S87) (hl : l.length ≤ 1000000) (a b : Int) : Ev (fun k => replica_ascending.f k l a b) (asc l a b) := by
  have := ascending_ev l hl b l.length 0 a (by omega)
  exact this
theorem rascending_ev (l : List S87) (hl : l.length ≤ 1000000) (b : Int) : ∀ (d i : Nat) (a : Int), i + d = l.length → Ev (fun k => tapearchiveref26_records.l0 k (uc l) a b (i : Int)) (asc (l.drop i) a b) := by
  intro d
  induction d with
  | zero =>
    intro i a hi
    refine Ev.next (fun k => by rw [tapearchiveref26_records.l0]) (Ev.neg (by rw [uc_length]; omega) (Ev.done fun _ => ?_))
    rw [List.drop_of_length_le (by omega)]
    rfl
  | succ d ih =>
    intro i a hi
    have hlt : i < l.length := by omega
    refine Ev.next (fun k => by rw [tapearchiveref26_records.l0]) (Ev.pos (by rw [uc_length]; omega) (Ev.pos (by omega) ?_))
    rw [rduc hlt, List.drop_eq_getElem_cons hlt, show (toR l[i]).f0 = l[i].f0 from rfl, show (toR l[i]).f1 = l[i].f1 from rfl]
    unfold asc
    have ih := ih (i + 1) l[i].f0 (by omega)
    by_cases h1 : l[i].f0 < a
    · exact Ev.pos h1 (Ev.done fun _ => by rw [decide_eq_true h1]; rfl)
    refine Ev.neg h1 ?_
    by_cases h2 : l[i].f0 > b
    · exact Ev.pos h2 (Ev.done fun _ => by rw [decide_eq_true h2]; simp)
    refine Ev.neg h2 ?_
    by_cases h3 : (l[i].f1.length : Int) > 65536
    · exact Ev.pos h3 (Ev.done fun _ => by rw [decide_eq_true h3]; simp)
    refine Ev.neg h3 ?_
    rw [wrap_in (by omega) (by omega), decide_eq_false h1, decide_eq_false h2, decide_eq_false h3]
    simpa using ih
theorem rasc_ev (l : List S87) (hl : l.length ≤ 1000000) (a b : Int) : Ev (fun k => tapearchiveref26_records.f k (uc l) a b) (asc l a b) := by
  have := rascending_ev l hl b l.length 0 a (by omega)
  exact this
theorem valid_ev (e k : Int) (l : List S87) (hl : l.length ≤ 1000000) : Ev (fun n => replica_Node_valid.f n e k l) (vnode e k l) := by
  unfold replica_Node_valid.f vnode
  refine Ev.bindS (number_f e) ?_
  cases h1 : num e with
  | false => exact Ev.neg (by simp) (Ev.done fun _ => rfl)
  | true =>
    refine Ev.pos rfl (Ev.both (asc_ev l hl 1 e) ?_)
    cases h2 : asc l 1 e with
    | false => exact Ev.neg (by simp) (Ev.done fun _ => rfl)
    | true =>
      refine Ev.pos rfl ?_
      by_cases h3 : k ≥ 0
      · exact Ev.pos h3 (Ev.done fun _ => by rw [decide_eq_true h3]; simp)
      · exact Ev.neg h3 (Ev.done fun _ => by rw [decide_eq_false h3]; simp)
theorem rvalid_ev (e k : Int) (l : List S87) (hl : l.length ≤ 1000000) : Ev (fun n => tapearchiveref26_valid.f n e k (uc l)) (vnode e k l) := by
  unfold tapearchiveref26_valid.f vnode num
  by_cases h0 : e ≥ 0
  · refine Ev.pos h0 ?_
    rw [decide_eq_true h0]
    by_cases h1 : e ≤ 1125899906842624
    · refine Ev.pos h1 ?_
      rw [decide_eq_true h1]
      refine Ev.both (rasc_ev l hl 1 e) ?_
      cases h2 : asc l 1 e with
      | false => exact Ev.neg (by simp) (Ev.done fun _ => rfl)
      | true =>
        refine Ev.pos rfl ?_
        by_cases h3 : k ≥ 0
        · exact Ev.pos h3 (Ev.done fun _ => by rw [decide_eq_true h3, uc_length]; simp)
        · exact Ev.neg h3 (Ev.done fun _ => by rw [decide_eq_false h3]; simp)
    · exact Ev.neg h1 (Ev.done fun _ => by rw [decide_eq_false h1]; simp)
  · exact Ev.neg h0 (Ev.done fun _ => by rw [decide_eq_false h0]; simp)
theorem end_f (e k : Int) (l : List S87) (hl : l.length ≤ 1000000) (n : Int) (h0 : 0 ≤ n) (h : n ≤ (l.length : Int)) : replica_Node_end.f e k l n = some (endS l n) := by
  unfold replica_Node_end.f endS
  by_cases hz : n = 0
  · rw [if_pos hz, if_pos hz]
  · rw [if_neg hz, if_neg hz, wrap_in (by omega) (by omega), if_pos (by omega), if_pos (by omega)]
    rfl
theorem rend_f (l : List S87) (hl : l.length ≤ 1000000) (n : Int) (h0 : 0 ≤ n) (h : n ≤ (l.length : Int)) : tapearchiveref26_end.f (uc l) n = some (endS l n) := by
  unfold tapearchiveref26_end.f endS
  by_cases hz : n = 0
  · rw [if_pos hz, if_pos hz]
  · rw [if_neg hz, if_neg hz, wrap_in (by omega) (by omega), if_pos (by omega), if_pos (by rw [uc_length]; omega)]
    have hlt : (n - 1).toNat < l.length := by omega
    rw [show n - 1 = (((n - 1).toNat : Nat) : Int) from by omega, rduc hlt, Int.toNat_natCast, List.getD_eq_getElem?_getD, List.getElem?_eq_getElem hlt]
    rfl
theorem offer_ev (e k : Int) (l : List S87) (h : sm l) (from_ : Int) : Ev (fun n => replica_Offer.f n e k l from_) (offerS e k l from_) := by
  have hl := h.1
  unfold replica_Offer.f offerS
  refine Ev.both (valid_ev e k l hl) ?_
  cases hv : vnode e k l with
  | false => exact Ev.neg (by simp) (Ev.done fun _ => rfl)
  | true =>
    refine Ev.pos rfl ?_
    rw [if_pos rfl]
    by_cases he : e = 0
    · exact Ev.pos he (Ev.done fun _ => by rw [if_pos he])
    refine Ev.neg he ?_
    rw [if_neg he]
    have bad : Ev (fun n => replica_Offer.j0 n from_ true e k l) (0, 0, 0, [], 0, 7) := Ev.next (fun k => by rw [replica_Offer.j0]) (Ev.pos rfl (Ev.done fun _ => rfl))
    by_cases h1 : from_ < 0
    · refine Ev.pos h1 ?_
      rw [if_pos (Or.inl h1)]
      exact bad
    refine Ev.neg h1 ?_
    by_cases h2 : from_ > (l.length : Int)
    · rw [decide_eq_true h2, if_pos (Or.inr h2)]
      exact bad
    · rw [decide_eq_false h2, if_neg (by rw [not_or]; exact ⟨h1, h2⟩)]
      refine Ev.next (fun k => by rw [replica_Offer.j0]) (Ev.neg (by simp) ?_)
      refine Ev.bindS (end_f e k l hl from_ (by omega) (by omega)) ?_
      refine Ev.pos (by omega) (Ev.pos (by omega) ?_)
      exact Ev.both (copied_ev _ (sm_drop h _)) (Ev.done fun _ => rfl)
theorem append_ev (e k : Int) (l : List S87) (h : sm l) (b : List Int) (hb : b.length ≤ 1000000) : Ev (fun n => replica_Append.f n e k l b) (appendS e k l b) := by
  have hl := h.1
  unfold replica_Append.f appendS
  refine Ev.both (valid_ev e k l hl) ?_
  cases hv : vnode e k l with
  | false => exact Ev.neg (by simp) (Ev.done fun _ => rfl)
  | true =>
    refine Ev.pos rfl ?_
    rw [if_pos rfl]
    by_cases he : e = 0
    · exact Ev.pos he (Ev.done fun _ => by rw [if_pos he])
    refine Ev.neg he ?_
    rw [if_neg he]
    by_cases h2 : (b.length : Int) > 65536
    · exact Ev.pos h2 (Ev.done fun _ => by rw [if_pos h2])
    · refine Ev.neg h2 (Ev.both (copied_ev l h) (Ev.bindS (clone_f b hb) (Ev.pos (by omega) (Ev.done fun _ => ?_))))
      rw [if_neg h2]
theorem equal_ev (a b : List Int) (h : a.length ≤ 1000000) : Ev (fun k => tapearchivelaw26_equal.f k a b) (decide (a = b)) := by
  unfold tapearchivelaw26_equal.f
  by_cases hl : a.length = b.length
  · refine Ev.pos (by omega) ?_
    have go : ∀ (d i : Nat), i + d = a.length → Ev (fun k => tapearchivelaw26_equal.l0 k a b (i : Int)) (decide (a.drop i = b.drop i)) := by
      intro d
      induction d with
      | zero =>
        intro i hi
        refine Ev.next (fun k => by rw [tapearchivelaw26_equal.l0]) (Ev.neg (by omega) (Ev.done fun _ => ?_))
        rw [List.drop_of_length_le (by omega : a.length ≤ i), List.drop_of_length_le (by omega : b.length ≤ i)]
        rfl
      | succ d ih =>
        intro i hi
        have h1 : i < a.length := by omega
        have h2 : i < b.length := by omega
        have r1 : rd a (i : Int) = a[i] := by
          unfold rd
          rw [Int.toNat_natCast, List.getD_eq_getElem?_getD, List.getElem?_eq_getElem h1]
          rfl
        have r2 : rd b (i : Int) = b[i] := by
          unfold rd
          rw [Int.toNat_natCast, List.getD_eq_getElem?_getD, List.getElem?_eq_getElem h2]
          rfl
        refine Ev.next (fun k => by rw [tapearchivelaw26_equal.l0]) (Ev.pos (by omega) (Ev.pos (by omega) (Ev.pos (by omega) ?_)))
        rw [r1, r2, List.drop_eq_getElem_cons h1, List.drop_eq_getElem_cons h2]
        by_cases e : a[i] = b[i]
        · refine Ev.pos e ?_
          rw [wrap_in (by omega) (by omega), e]
          have := ih (i + 1) (by omega)
          rw [show (decide (b[i] :: a.drop (i + 1) = b[i] :: b.drop (i + 1))) = decide (a.drop (i + 1) = b.drop (i + 1)) from by
            rw [Bool.eq_iff_iff, decide_eq_true_eq, decide_eq_true_eq]
            exact ⟨fun x => (List.cons.inj x).2, fun x => by rw [x]⟩]
          exact this
        · refine Ev.neg e (Ev.done fun _ => ?_)
          rw [decide_eq_false]
          intro x
          exact e (List.cons.inj x).1
    have := go a.length 0 (by omega)
    rw [List.drop_zero, List.drop_zero] at this
    exact this
  · refine Ev.neg (by omega) (Ev.done fun _ => ?_)
    rw [decide_eq_false]
    intro e
    exact hl (congrArg List.length e)
theorem sameRecords_ev (l : List S87) (h : sm l) : Ev (fun k => tapearchivelaw26_sameRecords.f k l (uc l)) true := by
  have hl := h.1
  unfold tapearchivelaw26_sameRecords.f
  refine Ev.pos (by rw [uc_length]) ?_
  have go : ∀ (d i : Nat), i + d = l.length → Ev (fun k => tapearchivelaw26_sameRecords.l0 k l (uc l) (i : Int)) true := by
    intro d
    induction d with
    | zero =>
      intro i hi
      exact Ev.next (fun k => by rw [tapearchivelaw26_sameRecords.l0]) (Ev.neg (by omega) (Ev.done fun _ => rfl))
    | succ d ih =>
      intro i hi
      have h1 : i < l.length := by omega
      refine Ev.next (fun k => by rw [tapearchivelaw26_sameRecords.l0]) (Ev.pos (by omega) (Ev.pos (by omega) (Ev.pos (by rw [uc_length]; omega) ?_)))
      rw [rdP h1, rduc h1]
      refine Ev.pos rfl (Ev.both (equal_ev _ _ (sm_get h h1)) (Ev.pos (decide_eq_true rfl) ?_))
      rw [wrap_in (by omega) (by omega)]
      exact ih (i + 1) (by omega)
  exact go l.length 0 (by omega)
def short (x : S87) : Bool := decide (x.f1.length ≤ 200)
def few (l : List S87) : Bool := decide (l.length ≤ 100) && l.all short
theorem few_ev (l : List S87) : Ev (fun k => tapearchivelaw26_few.f k (uc l)) (few l) := by
  unfold tapearchivelaw26_few.f few
  rw [uc_length]
  by_cases hl : l.length ≤ 100
  · refine Ev.neg (by omega) ?_
    have go : ∀ (d i : Nat), i + d = l.length → Ev (fun k => tapearchivelaw26_few.l0 k (uc l) (i : Int)) ((l.drop i).all short) := by
      intro d
      induction d with
      | zero =>
        intro i hi
        refine Ev.next (fun k => by rw [tapearchivelaw26_few.l0]) (Ev.neg (by rw [uc_length]; omega) (Ev.done fun _ => ?_))
        rw [List.drop_of_length_le (by omega)]
        rfl
      | succ d ih =>
        intro i hi
        have h1 : i < l.length := by omega
        refine Ev.next (fun k => by rw [tapearchivelaw26_few.l0]) (Ev.pos (by rw [uc_length]; omega) (Ev.pos (by omega) ?_))
        rw [rduc h1, show (toR l[i]).f1 = l[i].f1 from rfl, List.drop_eq_getElem_cons h1, List.all_cons]
        by_cases h2 : (l[i].f1.length : Int) > 200
        · refine Ev.pos h2 (Ev.done fun _ => ?_)
          rw [show short l[i] = false from decide_eq_false (by omega), Bool.false_and]
        · refine Ev.neg h2 ?_
          rw [wrap_in (by omega) (by omega), show short l[i] = true from decide_eq_true (by omega), Bool.true_and]
          exact ih (i + 1) (by omega)
    have := go l.length 0 (by omega)
    rw [decide_eq_true hl, Bool.true_and]
    exact this
  · refine Ev.pos (by omega) (Ev.done fun _ => ?_)
    rw [decide_eq_false hl, Bool.false_and]
theorem sm_few {l : List S87} (h : few l = true) : sm l ∧ l.length ≤ 100 := by
  unfold few at h
  rw [Bool.and_eq_true, decide_eq_true_eq, List.all_eq_true] at h
  refine ⟨⟨by omega, fun x hx => ?_⟩, h.1⟩
  have := of_decide_eq_true (h.2 x hx)
  omega
end Go.Proofs.Ytbigcpjlahkggaa.Rep
end
section
namespace Go.Proofs.Ytbigcpjlahkggaa.Rep
open Go.RowKit Go.Proofs.Ytbigcpjlahkggaa.Q Go.Proofs.YtbigcpjlahkggaaW.PrintWords Go.Proofs.YtbigcpjlahkggaaW.PrintMore Go.Proofs.YtbigcpjlahkggaaW.EvMore
theorem rdOf_nat {α : Type} (d : α) (xs : List α) (i : Nat) : rdOf d xs (i : Int) = xs.getD i d := by
  unfold rdOf
  rw [Int.toNat_natCast]
theorem rd_nat (xs : List Int) (i : Nat) : rd xs (i : Int) = xs.getD i 0 := by
  unfold rd
  rw [Int.toNat_natCast]
theorem getD_lt {α : Type} (d : α) (xs : List α) {i : Nat} (h : i < xs.length) : xs.getD i d = xs[i] := by
  rw [List.getD_eq_getElem?_getD, List.getElem?_eq_getElem h]
  rfl
def smN (l : List S35) : Prop := l.length ≤ 1000000 ∧ ∀ x ∈ l, sm x.f2
theorem rd35 {l : List S35} {i : Nat} (h : i < l.length) : rd_T35 l (i : Int) = l[i] := by
  unfold rd_T35
  rw [Int.toNat_natCast]
  exact getD_lt z35 l h
theorem compare_f (a b : Int) : cmp_Compare_int.f a b = some (if a < b then -1 else if a > b then 1 else 0) := by
  unfold cmp_Compare_int.f cmp_isNaN_int.f
  simp only [bne_self_eq_false, Option.bind_some, Bool.false_eq_true, if_false]
  split
  · rfl
  · split <;> rfl
theorem or_ev (a b : Int) : Ev (fun k => cmp_Or_int.f k [a, b]) (if a = 0 then b else a) := by
  unfold cmp_Or_int.f
  refine Ev.next (fun k => cmp_Or_int.l0.eq_2 ..) ?_
  refine Ev.pos (by simp) (Ev.pos (by omega) (Ev.pos (by simp) ?_))
  rw [show rd [a, b] 0 = a from rfl]
  by_cases ha : a = 0
  · refine Ev.pos ha ?_
    rw [if_pos ha, show wrap64 (0 + 1) = 1 from wrap_in (by omega) (by omega)]
    refine Ev.next (fun k => cmp_Or_int.l0.eq_2 ..) ?_
    refine Ev.pos (by simp) (Ev.pos (by omega) (Ev.pos (by simp) ?_))
    rw [show rd [a, b] 1 = b from rfl]
    by_cases hb : b = 0
    · refine Ev.pos hb ?_
      rw [show wrap64 (1 + 1) = 2 from wrap_in (by omega) (by omega)]
      refine Ev.next (fun k => cmp_Or_int.l0.eq_2 ..) ?_
      exact Ev.neg (by simp) (Ev.done fun _ => by rw [hb])
    · exact Ev.neg hb (Ev.done fun _ => rfl)
  · exact Ev.neg ha (Ev.done fun _ => by rw [if_neg ha])
theorem better_ev (a b : S35) (ha : a.f2.length ≤ 1000000) (hb : b.f2.length ≤ 1000000) : ∃ v : Int, Ev (fun k => replica_better.f k a.f0 a.f1 a.f2 b.f0 b.f1 b.f2) v ∧ decide (v > 0) = betterS a b := by
  unfold replica_better.f betterS
  have e1 := end_f a.f0 a.f1 a.f2 ha a.f2.length (by omega) (by omega)
  have e2 := end_f b.f0 b.f1 b.f2 hb b.f2.length (by omega) (by omega)
  generalize endS a.f2 a.f2.length = x at *
  generalize endS b.f2 b.f2.length = y at *
  refine ⟨_, Ev.bindS e1 (Ev.bindS e2 (Ev.bindS (compare_f _ _) (Ev.bindS (compare_f _ _) (Ev.both (or_ev _ _) (Ev.done fun _ => rfl))))), ?_⟩
  by_cases h1 : x < y
  · have : ¬ x > y := by omega
    have h3 : ¬ x = y := by omega
    simp [h1, this, h3]
  · by_cases h2 : x > y
    · simp [h1, h2]
    · have h3 : x = y := by omega
      subst h3
      by_cases h4 : a.f2.length < b.f2.length
      · have : ¬ b.f2.length < a.f2.length := by omega
        simp [h4, this]
      · by_cases h5 : b.f2.length < a.f2.length
        · simp [h4, h5]
        · simp [h4, h5]
theorem some_bad_ev (l : List S35) (h : smN l) : Ev (fun k => replica_Node_replica_Elect_1_7700001.f k l) (!(l.all vn)) := by
  unfold replica_Node_replica_Elect_1_7700001.f
  have hl := h.1
  have go : ∀ (d i : Nat), i + d = l.length → ∃ v : Int, Ev (fun k => replica_Node_replica_Elect_1_7700002.l0 k l (l.length : Int) (i : Int)) v ∧ decide (v ≥ 0) = !((l.drop i).all vn) := by
    intro d
    induction d with
    | zero =>
      intro i hi
      refine ⟨-1, Ev.next (fun k => by rw [replica_Node_replica_Elect_1_7700002.l0]) (Ev.neg (by omega) (Ev.done fun _ => rfl)), ?_⟩
      rw [List.drop_of_length_le (by omega)]
      rfl
    | succ d ih =>
      intro i hi
      have hlt : i < l.length := by omega
      obtain ⟨v, h1, h2⟩ := ih (i + 1) (by omega)
      have hv := valid_ev l[i].f0 l[i].f1 l[i].f2 (h.2 _ (List.getElem_mem hlt)).1
      have hE : Ev (fun k => replica_Elect_1.f k l[i].f0 l[i].f1 l[i].f2) (!(vn l[i])) := by
        unfold replica_Elect_1.f
        exact Ev.both hv (Ev.done fun _ => rfl)
      rw [List.drop_eq_getElem_cons hlt, List.all_cons]
      cases hb : vn l[i] with
      | false =>
        rw [hb] at hE
        refine ⟨i, Ev.next (fun k => by rw [replica_Node_replica_Elect_1_7700002.l0]) (Ev.pos (by omega) (Ev.pos (by omega) (Ev.pos (by omega) ?_))), ?_⟩
        · rw [rd35 hlt]
          exact Ev.both hE (Ev.pos rfl (Ev.done fun _ => rfl))
        · simp
      | true =>
        rw [hb] at hE
        refine ⟨v, Ev.next (fun k => by rw [replica_Node_replica_Elect_1_7700002.l0]) (Ev.pos (by omega) (Ev.pos (by omega) (Ev.pos (by omega) ?_))), ?_⟩
        · rw [rd35 hlt, wrap_in (by omega) (by omega)]
          exact Ev.both hE (Ev.neg (by simp) h1)
        · rw [Bool.true_and]; exact h2
  obtain ⟨v, h1, h2⟩ := go l.length 0 (by omega)
  unfold replica_Node_replica_Elect_1_7700002.f
  refine Ev.both h1 (Ev.done fun _ => ?_)
  rw [h2, List.drop_zero]
theorem vn_num {x : S35} (h : vn x = true) : 0 ≤ x.f0 ∧ x.f0 ≤ 1125899906842624 := by
  unfold vn vnode num at h
  simp only [Bool.and_eq_true, decide_eq_true_eq] at h
  exact h.1
structure Inv (l : List S35) (i : Nat) (b c e : Int) : Prop where
  b0 : b = -1 ∨ (0 ≤ b ∧ b < (l.length : Int))
  c0 : 0 ≤ c ∧ c ≤ (i : Int)
  cb : 0 < c → 0 ≤ b
  e0 : 0 ≤ e ∧ e ≤ 1125899906842624
theorem Inv.take {l : List S35} {i : Nat} {b c e b' : Int} (h : Inv l i b c e) (hi : i < l.length) (hb : b' = (i : Int) ∨ (b' = b ∧ 0 ≤ b)) (hv : vn l[i] = true) : Inv l (i + 1) b' (c + 1) (mx e l[i].f0) := by
  obtain ⟨h1, h2, h3, h4⟩ := h
  have hn := vn_num hv
  refine ⟨?_, by omega, ?_, ?_⟩
  · rcases hb with rfl | ⟨rfl, hb⟩
    · right; omega
    · exact h1
  · intro _
    rcases hb with rfl | ⟨rfl, hb⟩
    · omega
    · exact hb
  · unfold mx
    split <;> omega
theorem elect_loop (l : List S35) (ans : List Bool) (h : smN l) (hv : l.all vn = true) (ha : ans.length = l.length) : ∀ (d i : Nat) (b c e : Int), i + d = l.length → Inv l i b c e →
    Ev (fun k => replica_Elect.l0 k l ans b c e l (l.length : Int) (i : Int)) (elRes l (elGo l ans d i b c e)) := by
  have hl := h.1
  rw [List.all_eq_true] at hv
  intro d
  induction d with
  | zero =>
    intro i b c e hi hI
    obtain ⟨h1, h2, h3, h4⟩ := hI
    refine Ev.next (fun k => by rw [replica_Elect.l0]) (Ev.neg (by omega) ?_)
    rw [elGo_zero, wrap_in (by omega) (by omega)]
    unfold elFin
    by_cases h5 : 2 * c ≤ (l.length : Int)
    · refine Ev.pos h5 (Ev.done fun _ => ?_)
      rw [if_pos h5]
    · refine Ev.neg h5 ?_
      rw [if_neg h5]
      by_cases h6 : e = 1125899906842624
      · refine Ev.pos h6 (Ev.done fun _ => ?_)
        rw [if_pos h6]
      · have hb := h3 (by omega)
        obtain ⟨n, rfl⟩ : ∃ n : Nat, b = n := ⟨b.toNat, by omega⟩
        have hn : n < l.length := by omega
        refine Ev.neg h6 (Ev.pos (by omega) (Ev.pos (by omega) ?_))
        rw [if_neg h6, rd35 hn, Int.toNat_natCast, getD_lt z35 l hn]
        refine Ev.both (copied_ev _ (h.2 _ (List.getElem_mem hn))) (Ev.done fun _ => ?_)
        rw [wrap_in (by omega) (by omega)]
  | succ d ih =>
    intro i b c e hi hI
    have hlt : i < l.length := by omega
    have hlt2 : i < ans.length := by omega
    have hvi := hv l[i] (List.getElem_mem hlt)
    have hI2 := fun b' hb => hI.take (b' := b') hlt hb hvi
    obtain ⟨h1, h2, h3, h4⟩ := hI
    refine Ev.next (fun k => by rw [replica_Elect.l0]) (Ev.pos (by omega) (Ev.pos (by omega) (Ev.pos (by omega) (Ev.pos (by omega) ?_))))
    rw [rdOf_nat, rd35 hlt]
    rw [wrap_in (i := (i : Int) + 1) (by omega) (by omega)]
    have hgi := getD_lt z35 l hlt
    cases hans : ans.getD i false with
    | false =>
      refine Ev.neg (by simp) ?_
      rw [elGo_no hans]
      exact ih (i + 1) b c e (by omega) ⟨h1, by omega, h3, h4⟩
    | true =>
      refine Ev.pos rfl ?_
      rw [wrap_in (i := c + 1) (by omega) (by omega)]
      by_cases hb : b < 0
      · refine Ev.pos hb ?_
        rw [elGo_new hans (Or.inl hb), hgi]
        exact ih (i + 1) i (c + 1) _ (by omega) (hI2 _ (.inl rfl))
      · obtain ⟨n, rfl⟩ : ∃ n : Nat, b = n := ⟨b.toNat, by omega⟩
        have hn : n < l.length := by omega
        refine Ev.neg hb (Ev.pos (by omega) (Ev.pos (by omega) ?_))
        obtain ⟨v, hv1, hv2⟩ := better_ev l[i] l[n] (h.2 _ (List.getElem_mem hlt)).1 (h.2 _ (List.getElem_mem hn)).1
        have hgn := getD_lt z35 l hn
        rw [rd35 hn]
        refine Ev.both hv1 ?_
        by_cases hv3 : v > 0
        · rw [decide_eq_true hv3] at hv2
          refine Ev.pos hv3 ?_
          rw [elGo_new hans (Or.inr (by rw [Int.toNat_natCast, hgi, hgn]; exact hv2.symm)), hgi]
          exact ih (i + 1) i (c + 1) _ (by omega) (hI2 _ (.inl rfl))
        · rw [decide_eq_false hv3] at hv2
          refine Ev.neg hv3 ?_
          rw [elGo_old hans hb (by rw [Int.toNat_natCast, hgi, hgn]; exact hv2.symm), hgi]
          exact ih (i + 1) n (c + 1) _ (by omega) (hI2 _ (.inr ⟨rfl, by omega⟩))
theorem elect_ev (l : List S35) (ans : List Bool) (h : smN l) : Ev (fun k => replica_Elect.f k l ans) (electS l ans) := by
  unfold replica_Elect.f electS
  have hl := h.1
  have bad : Ev (fun k => replica_Elect.j0 k l ans true) (0, 0, 0, [], 8) := Ev.next (fun k => by rw [replica_Elect.j0]) (Ev.pos rfl (Ev.done fun _ => rfl))
  by_cases h1 : l = []
  · subst h1
    rw [if_pos (Or.inl rfl)]
    exact Ev.pos rfl bad
  have hpos := List.length_pos_iff.2 h1
  refine Ev.neg (by omega) ?_
  by_cases h2 : ans.length = l.length
  · refine Ev.pos (by omega) (Ev.both (some_bad_ev l h) ?_)
    cases h3 : l.all vn with
    | false =>
      rw [if_pos (Or.inr (Or.inr (by simp)))]
      exact bad
    | true =>
      rw [if_neg (by rw [not_or, not_or]; exact ⟨h1, fun x => x h2, fun x => x rfl⟩)]
      refine Ev.next (fun k => by rw [replica_Elect.j0]) (Ev.neg (by simp) ?_)
      exact elect_loop l ans h h3 h2 l.length 0 (-1) 0 0 (by omega) ⟨.inl rfl, by omega, by omega, by omega⟩
  · refine Ev.neg (by omega) ?_
    rw [if_pos (Or.inr (Or.inl h2))]
    exact bad
theorem commit_down (e k : Int) (l : List S87) (hl : l.length ≤ 1000000) : ∀ (n : Nat), n ≤ l.length → Ev (fun f => replica_Committed.l1 f (n : Int) e k l) (mx (down l e n) k) := by
  intro n
  induction n with
  | zero =>
    intro _
    refine Ev.next (fun k => by rw [replica_Committed.l1]) (Ev.neg (by omega) ?_)
    exact Ev.done fun _ => rfl
  | succ n ih =>
    intro hn
    have hlt : n < l.length := by omega
    refine Ev.next (fun k => by rw [replica_Committed.l1]) (Ev.pos (by omega) ?_)
    rw [wrap_in (by omega) (by omega), show ((n + 1 : Nat) : Int) - 1 = (n : Int) from by omega, rdP hlt]
    refine Ev.pos (by omega) (Ev.pos (by omega) ?_)
    unfold down
    rw [getD_lt z87 l hlt]
    by_cases h : l[n].f0 = e
    · refine Ev.pos h (Ev.done fun _ => ?_)
      rw [if_pos h]
    · refine Ev.neg h ?_
      rw [if_neg h]
      exact ih (by omega)
theorem committed_ev (e k : Int) (l : List S87) (hl : l.length ≤ 1000000) (m : List Int) (hm : m.length ≤ 1000000) : Ev (fun f => replica_Committed.f f e k l m) (commitS e k l m) := by
  unfold replica_Committed.f commitS
  refine Ev.both (valid_ev e k l hl) ?_
  cases hv : vnode e k l with
  | false => exact Ev.neg (by simp) (Ev.done fun _ => rfl)
  | true =>
    refine Ev.pos rfl ?_
    rw [if_pos rfl, Int.toNat_natCast]
    refine Ev.pos (by omega) (Ev.pos (by omega) ?_)
    have hR : (m.map (clamp l.length)).length = m.length := List.length_map _
    have go : ∀ (d i : Nat), i + d = m.length → Ev (fun f => replica_Committed.l0 f (prt 0 (m.map (clamp l.length)) i) m (m.length : Int) (i : Int) e k l) (mx (down l e (median m l.length).toNat) k) := by
      intro d
      induction d with
      | zero =>
        intro i hi
        obtain rfl : i = m.length := by omega
        refine Ev.next (fun k => by rw [replica_Committed.l0]) (Ev.neg (by omega) ?_)
        have hf := prt_full (0 : Int) (m.map (clamp l.length))
        rw [hR] at hf
        rw [hf]
        have hs : slices_Sort_int_int.f (m.map (clamp l.length)) = some ((m.map (clamp l.length)).mergeSort fun x y => decide (x ≤ y)) := by
          unfold slices_Sort_int_int.f
          rw [if_pos (by rw [hR]; omega)]
        refine Ev.bindS hs ?_
        rw [hR]
        have hmed := median_in m l.length (by omega)
        have fin : ∀ x : Int, x = median m l.length → Ev (fun f => replica_Committed.j1 f x e k l) (mx (down l e (median m l.length).toNat) k) := by
          rintro x rfl
          refine Ev.next (fun k => by rw [replica_Committed.j1]) ?_
          have := commit_down e k l hl (median m l.length).toNat (by omega)
          rw [show (((median m l.length).toNat : Nat) : Int) = median m l.length from by omega] at this
          exact this
        by_cases hz : m = []
        · subst hz
          exact Ev.neg (by simp) (fin 0 (by unfold median; rw [if_pos rfl]))
        · have hpos := List.length_pos_iff.2 hz
          refine Ev.pos (by omega) ?_
          have e1 : wrap64 (Int.tdiv (wrap64 ((m.length : Int) - 1)) 2) = (((m.length - 1) / 2 : Nat) : Int) := by
            rw [wrap_in (i := (m.length : Int) - 1) (by omega) (by omega), show (m.length : Int) - 1 = ((m.length - 1 : Nat) : Int) from by omega, show Int.tdiv (((m.length - 1 : Nat)) : Int) 2 = (((m.length - 1) / 2 : Nat) : Int) from rfl]
            exact wrap_nat (by omega)
          rw [e1]
          refine Ev.pos (by omega) (Ev.pos (by omega) (fin _ ?_))
          rw [rd_nat]
          unfold median
          rw [if_neg hz]
      | succ d ih =>
        intro i hi
        have hlt : i < m.length := by omega
        have hpl := prt_length (0 : Int) (m.map (clamp l.length)) i (by omega)
        refine Ev.next (fun k => by rw [replica_Committed.l0]) (Ev.pos (by omega) (Ev.pos (by omega) (Ev.pos (by omega) (Ev.pos (by omega) ?_))))
        rw [Int.toNat_natCast, prt_set 0 _ i (by omega) _ (by rw [rd_nat, getD_lt 0 m hlt, List.getElem_map]; rfl), wrap_in (by omega) (by omega)]
        exact ih (i + 1) (by omega)
    have := go m.length 0 (by omega)
    rw [prt_zero, hR] at this
    exact this
end Go.Proofs.Ytbigcpjlahkggaa.Rep
end
section
namespace Go.Proofs.Ytbigcpjlahkggaa.Rep
open Go.RowKit Go.Proofs.Ytbigcpjlahkggaa.Q Go.Proofs.YtbigcpjlahkggaaW.PrintWords Go.Proofs.YtbigcpjlahkggaaW.PrintMore Go.Proofs.YtbigcpjlahkggaaW.EvMore
def vtail (e b s : Int) (l : List S87) : Bool := (!(decide (b = 0)) || decide (s = 0)) && ((!(decide (0 < b)) || (decide (1 ≤ s) && decide (s ≤ e))) && asc l (mx s 1) e)
theorem vmsg_eq (e b s : Int) (l : List S87) (k : Int) : vmsg e b s l k = (decide (1 ≤ e) && (num e && (num b && (num k && vtail e b s l)))) := rfl
theorem num_iff (n : Int) : num n = true ↔ 0 ≤ n ∧ n ≤ 1125899906842624 := by
  unfold num
  simp only [Bool.and_eq_true, decide_eq_true_eq]
theorem mvalid_ev (e b s : Int) (l : List S87) (k : Int) (hl : l.length ≤ 1000000) : Ev (fun n => replica_Message_valid.f n e b s l k) (vmsg e b s l k) := by
  unfold replica_Message_valid.f
  rw [vmsg_eq]
  have bad : Ev (fun n => replica_Message_valid.j0 n true e b s l k) false := Ev.next (fun k => by rw [replica_Message_valid.j0]) (Ev.pos rfl (Ev.done fun _ => rfl))
  by_cases h1 : e < 1
  · refine Ev.pos h1 ?_
    rw [decide_eq_false (by omega)]
    exact bad
  refine Ev.neg h1 (Ev.bindS (number_f e) ?_)
  rw [decide_eq_true (by omega : 1 ≤ e)]
  cases h2 : num e with
  | false => exact Ev.neg (by simp) bad
  | true =>
    refine Ev.pos rfl (Ev.bindS (number_f b) ?_)
    cases h3 : num b with
    | false => exact Ev.neg (by simp) bad
    | true =>
      refine Ev.pos rfl (Ev.bindS (number_f k) ?_)
      cases h4 : num k with
      | false => exact bad
      | true =>
        have hb := (num_iff b).1 h3
        have ha : Ev (fun n => replica_ascending.f n l (mx s 1) e) (asc l (mx s 1) e) := asc_ev l hl _ _
        refine Ev.next (fun k => by rw [replica_Message_valid.j0]) (Ev.neg (by simp) ?_)
        simp only [Bool.true_and]
        unfold vtail
        by_cases h5 : b = 0
        · refine Ev.pos h5 ?_
          by_cases h6 : s = 0
          · refine Ev.pos h6 (Ev.neg (by omega) ?_)
            rw [decide_eq_true h6, decide_eq_false (by omega : ¬ 0 < b)]
            simp only [Bool.or_true, Bool.not_false, Bool.true_or, Bool.true_and]
            exact Ev.both ha (Ev.done fun _ => rfl)
          · refine Ev.neg h6 (Ev.done fun _ => ?_)
            rw [decide_eq_true h5, decide_eq_false h6]
            rfl
        · refine Ev.neg h5 (Ev.pos (by omega) ?_)
          rw [decide_eq_false h5, decide_eq_true (by omega : 0 < b)]
          simp only [Bool.not_false, Bool.true_or, Bool.true_and, Bool.not_true, Bool.false_or]
          by_cases h6 : s < 1
          · refine Ev.pos h6 (Ev.done fun _ => ?_)
            rw [decide_eq_false (by omega : ¬ 1 ≤ s)]
            rfl
          · refine Ev.neg h6 ?_
            rw [decide_eq_true (by omega : 1 ≤ s)]
            by_cases h7 : s > e
            · refine Ev.pos h7 (Ev.done fun _ => ?_)
              rw [decide_eq_false (by omega : ¬ s ≤ e)]
              rfl
            · refine Ev.neg h7 ?_
              rw [decide_eq_true (by omega : s ≤ e)]
              exact Ev.both ha (Ev.done fun _ => rfl)
theorem mx_comm1 (s : Int) : mx 1 s = mx s 1 := by
  unfold mx
  split <;> split <;> omega
theorem sound_ev (e b s : Int) (l : List S87) (k : Int) (hl : l.length ≤ 1000000) : Ev (fun n => tapearchiveref26_sound.f n e b s (uc l) k) (vmsg e b s l k) := by
  unfold tapearchiveref26_sound.f
  rw [vmsg_eq]
  have bad : Ev (fun n => tapearchiveref26_sound.j0 n true e b s (uc l) k) false := Ev.next (fun k => by rw [tapearchiveref26_sound.j0]) (Ev.pos rfl (Ev.done fun _ => rfl))
  have nn : ∀ n : Int, ¬ (0 ≤ n ∧ n ≤ 1125899906842624) → num n = false := fun n h => by
    rw [Bool.eq_false_iff]
    exact fun h2 => h ((num_iff n).1 h2)
  by_cases h1 : e < 1
  · refine Ev.pos h1 ?_
    rw [decide_eq_false (by omega)]
    exact bad
  refine Ev.neg h1 ?_
  rw [decide_eq_true (by omega : 1 ≤ e)]
  by_cases h2 : e > 1125899906842624
  · refine Ev.pos h2 ?_
    rw [nn e (by omega)]
    exact bad
  refine Ev.neg h2 ?_
  rw [(num_iff e).2 (by omega)]
  by_cases h3 : b < 0
  · refine Ev.pos h3 ?_
    rw [nn b (by omega)]
    exact bad
  refine Ev.neg h3 ?_
  by_cases h4 : b > 1125899906842624
  · refine Ev.pos h4 ?_
    rw [nn b (by omega)]
    exact bad
  refine Ev.neg h4 ?_
  rw [(num_iff b).2 (by omega)]
  by_cases h5 : k < 0
  · refine Ev.pos h5 ?_
    rw [nn k (by omega)]
    exact bad
  refine Ev.neg h5 ?_
  by_cases h6 : k > 1125899906842624
  · rw [decide_eq_true h6, nn k (by omega)]
    exact bad
  rw [decide_eq_false h6, (num_iff k).2 (by omega)]
  have ha : Ev (fun n => tapearchiveref26_records.f n (uc l) (mx 1 s) e) (asc l (mx s 1) e) := by
    rw [mx_comm1]
    exact rasc_ev l hl _ _
  refine Ev.next (fun k => by rw [tapearchiveref26_sound.j0]) (Ev.neg (by simp) ?_)
  simp only [Bool.true_and]
  unfold vtail
  by_cases h5 : b = 0
  · refine Ev.pos h5 ?_
    by_cases h6 : s = 0
    · refine Ev.pos h6 (Ev.neg (by omega) ?_)
      rw [decide_eq_true h6, decide_eq_false (by omega : ¬ 0 < b)]
      simp only [Bool.or_true, Bool.not_false, Bool.true_or, Bool.true_and]
      exact Ev.both ha (Ev.done fun _ => rfl)
    · refine Ev.neg h6 (Ev.done fun _ => ?_)
      rw [decide_eq_true h5, decide_eq_false h6]
      rfl
  · refine Ev.neg h5 (Ev.pos (by omega) ?_)
    rw [decide_eq_false h5, decide_eq_true (by omega : 0 < b)]
    simp only [Bool.not_false, Bool.true_or, Bool.true_and, Bool.not_true, Bool.false_or]
    by_cases h6 : s < 1
    · refine Ev.pos h6 (Ev.done fun _ => ?_)
      rw [decide_eq_false (by omega : ¬ 1 ≤ s)]
      rfl
    · refine Ev.neg h6 ?_
      rw [decide_eq_true (by omega : 1 ≤ s)]
      by_cases h7 : s > e
      · refine Ev.pos h7 (Ev.done fun _ => ?_)
        rw [decide_eq_false (by omega : ¬ s ≤ e)]
        rfl
      · refine Ev.neg h7 ?_
        rw [decide_eq_true (by omega : s ≤ e)]
        exact Ev.both ha (Ev.done fun _ => rfl)
theorem common_step {l m : List S87} {i j : Nat} (hi : i < l.length) (hj : j < m.length) : common (l.drop i) (m.drop j) = if l[i].f0 = m[j].f0 then common (l.drop (i + 1)) (m.drop (j + 1)) + 1 else 0 := by
  rw [List.drop_eq_getElem_cons hi, List.drop_eq_getElem_cons hj]
  rfl
theorem common_end1 {l m : List S87} {i j : Nat} (hj : m.length ≤ j) : common (l.drop i) (m.drop j) = 0 := by
  have := (common_le (l.drop i) (m.drop j)).2
  rw [List.length_drop] at this
  omega
theorem common_end2 {l m : List S87} {i j : Nat} (hi : l.length ≤ i) : common (l.drop i) (m.drop j) = 0 := by
  have := (common_le (l.drop i) (m.drop j)).1
  rw [List.length_drop] at this
  omega
theorem agreed_ev (e k : Int) (l : List S87) (me : Int) (b : Nat) (ms : Int) (ml : List S87) (mk : Int) (hl : l.length ≤ 1000000) (hm : ml.length ≤ 1000000) (hb : b ≤ l.length) :
    Ev (fun n => replica_agreed.f n e k l me (b : Int) ms ml mk) ((b + common (l.drop b) ml : Nat) : Int) := by
  unfold replica_agreed.f
  have go : ∀ (d i : Nat), i + d = ml.length → Ev (fun n => replica_agreed.l0 n (i : Int) e k l me (b : Int) ms ml mk) ((b + (i + common (l.drop (b + i)) (ml.drop i)) : Nat) : Int) := by
    intro d
    induction d with
    | zero =>
      intro i hi
      refine Ev.next (fun k => by rw [replica_agreed.l0]) (Ev.neg (by omega) (Ev.done fun _ => ?_))
      rw [common_end1 (by omega), wrap_in (by omega) (by omega)]
      congr 1
    | succ d ih =>
      intro i hi
      have hlt : i < ml.length := by omega
      refine Ev.next (fun k => by rw [replica_agreed.l0]) (Ev.pos (by omega) ?_)
      rw [wrap_in (i := (b : Int) + (i : Int)) (by omega) (by omega), show (b : Int) + (i : Int) = ((b + i : Nat) : Int) from by omega]
      by_cases h2 : b + i < l.length
      · refine Ev.pos (by omega) (Ev.pos (by omega) (Ev.pos (by omega) ?_))
        rw [rdP h2, rdP hlt, common_step h2 hlt]
        by_cases h3 : l[b + i].f0 = ml[i].f0
        · refine Ev.pos h3 ?_
          rw [if_pos h3, wrap_in (by omega) (by omega)]
          have := ih (i + 1) (by omega)
          rw [show b + (i + 1 + common (l.drop (b + (i + 1))) (ml.drop (i + 1))) = b + (i + (common (l.drop (b + i + 1)) (ml.drop (i + 1)) + 1)) from by rw [show b + (i + 1) = b + i + 1 from rfl]; omega] at this
          exact this
        · refine Ev.neg h3 (Ev.done fun _ => ?_)
          rw [if_neg h3]
          rfl
      · refine Ev.neg (by omega) (Ev.done fun _ => ?_)
        rw [common_end2 (by omega)]
        rfl
  have := go ml.length 0 (by omega)
  rw [Nat.add_zero, List.drop_zero, Nat.zero_add] at this
  exact this
theorem vmsg_b {e b s : Int} {l : List S87} {k : Int} (h : vmsg e b s l k = true) : 0 ≤ b ∧ b ≤ 1125899906842624 ∧ 0 ≤ k ∧ k ≤ 1125899906842624 := by
  rw [vmsg_eq] at h
  simp only [Bool.and_eq_true, decide_eq_true_eq] at h
  have h1 := (num_iff b).1 h.2.2.1
  have h2 := (num_iff k).1 h.2.2.2.1
  omega
theorem accept_ev (e k : Int) (l : List S87) (me mb ms : Int) (ml : List S87) (mk : Int) (h : sm l) (hm : sm ml) : Ev (fun n => replica_Accept.f n e k l me mb ms ml mk) (acceptS e k l me mb ms ml mk) := by
  have hl := h.1
  have hml := hm.1
  unfold replica_Accept.f acceptS
  have bad : Ev (fun n => replica_Accept.j0 n true e k l me mb ms ml mk) (0, 0, [], 0, 8) := Ev.next (fun k => by rw [replica_Accept.j0]) (Ev.pos rfl (Ev.done fun _ => rfl))
  refine Ev.both (valid_ev e k l hl) ?_
  cases hv : vnode e k l with
  | false =>
    rw [if_neg (fun x => by simp at x)]
    exact Ev.neg (by simp) bad
  | true =>
    refine Ev.pos rfl (Ev.both (mvalid_ev me mb ms ml mk hml) ?_)
    cases hv2 : vmsg me mb ms ml mk with
    | false =>
      rw [if_neg (fun x => by simp at x)]
      exact bad
    | true =>
      rw [if_pos ⟨rfl, rfl⟩]
      have hb := vmsg_b hv2
      refine Ev.next (fun k => by rw [replica_Accept.j0]) (Ev.neg (by simp) ?_)
      by_cases h1 : me < e
      · refine Ev.pos h1 (Ev.done fun _ => ?_)
        rw [if_pos h1]
      refine Ev.neg h1 ?_
      rw [if_neg h1]
      by_cases h2 : (l.length : Int) < mb
      · refine Ev.pos h2 (Ev.done fun _ => ?_)
        rw [if_pos (Or.inl h2)]
      refine Ev.neg h2 (Ev.bindS (end_f e k l hl mb (by omega) (by omega)) ?_)
      by_cases h3 : endS l mb = ms
      · refine Ev.pos h3 ?_
        rw [if_neg (by rw [not_or]; exact ⟨h2, fun x => x h3⟩)]
        obtain ⟨b, rfl⟩ : ∃ b : Nat, mb = b := ⟨mb.toNat, by omega⟩
        have hc := common_le (l.drop b) ml
        rw [List.length_drop] at hc
        refine Ev.both (agreed_ev e k l me b ms ml mk hl hml (by omega)) (Ev.both (copied_ev l h) ?_)
        simp only [Int.toNat_natCast]
        rw [wrap_in (i := (b : Int) + (ml.length : Int)) (by omega) (by omega)]
        generalize common (l.drop b) ml = c at *
        by_cases h4 : c < ml.length
        · refine Ev.pos (by omega) ?_
          rw [if_pos h4]
          by_cases h5 : (b : Int) + (c : Int) < k
          · refine Ev.pos (by omega) (Ev.done fun _ => ?_)
            rw [if_pos h5]
          · refine Ev.neg (by omega) (Ev.pos (by omega) (Ev.pos (by omega) (Ev.bindS rfl ?_)))
            rw [if_neg h5, wrap_in (i := ((b + c : Nat) : Int) - (b : Int)) (by omega) (by omega), show ((b + c : Nat) : Int) - (b : Int) = (c : Int) from by omega, Int.toNat_natCast]
            refine Ev.pos (by omega) (Ev.pos (by omega) (Ev.both (copied_ev _ (sm_drop hm c)) (Ev.pos ?_ (Ev.done fun _ => rfl))))
            rw [List.length_take, List.length_drop]
            omega
        · refine Ev.neg (by omega) (Ev.done fun _ => ?_)
          rw [if_neg h4]
      · refine Ev.neg h3 (Ev.done fun _ => ?_)
        rw [if_pos (Or.inr h3)]
def rAccept (r : Int × Int × List S87 × Int × Int) : Int × Int × List S79 × Int × Int := (r.1, r.2.1, uc r.2.2.1, r.2.2.2.1, r.2.2.2.2)
theorem raccept_ev (e k : Int) (l : List S87) (me mb ms : Int) (ml : List S87) (mk : Int) (h : sm l) (hm : sm ml) : Ev (fun n => tapearchiveref26_Accept.f n e k (uc l) me mb ms (uc ml) mk) (rAccept (acceptS e k l me mb ms ml mk)) := by
  have hl := h.1
  have hml := hm.1
  unfold tapearchiveref26_Accept.f acceptS
  have bad : Ev (fun n => tapearchiveref26_Accept.j0 n true e k (uc l) me mb ms (uc ml) mk) (0, 0, [], 0, 8) := Ev.next (fun k => by rw [tapearchiveref26_Accept.j0]) (Ev.pos rfl (Ev.done fun _ => rfl))
  have bad1 : Ev (fun n => tapearchiveref26_Accept.j1 n true e k (uc l) me mb ms (uc ml) mk) (0, 0, [], 0, 9) := Ev.next (fun k => by rw [tapearchiveref26_Accept.j1]) (Ev.pos rfl (Ev.done fun _ => rfl))
  refine Ev.both (rvalid_ev e k l hl) ?_
  cases hv : vnode e k l with
  | false =>
    rw [if_neg (fun x => by simp at x)]
    exact Ev.neg (by simp) bad
  | true =>
    refine Ev.pos rfl (Ev.both (sound_ev me mb ms ml mk hml) ?_)
    cases hv2 : vmsg me mb ms ml mk with
    | false =>
      rw [if_neg (fun x => by simp at x)]
      exact bad
    | true =>
      rw [if_pos ⟨rfl, rfl⟩]
      have hb := vmsg_b hv2
      refine Ev.next (fun k => by rw [tapearchiveref26_Accept.j0]) (Ev.neg (by simp) ?_)
      by_cases h1 : me < e
      · refine Ev.pos h1 (Ev.done fun _ => ?_)
        rw [if_pos h1]
        rfl
      refine Ev.neg h1 ?_
      rw [if_neg h1, uc_length]
      by_cases h2 : (l.length : Int) < mb
      · refine Ev.pos (by omega) ?_
        rw [if_pos (Or.inl h2)]
        exact bad1
      refine Ev.neg (by omega) (Ev.bindS (rend_f l hl mb (by omega) (by omega)) ?_)
      by_cases h3 : endS l mb = ms
      · rw [show (endS l mb != ms) = false from by rw [h3]; exact bne_self_eq_false _, if_neg (by rw [not_or]; exact ⟨h2, fun x => x h3⟩)]
        obtain ⟨b, rfl⟩ : ∃ b : Nat, mb = b := ⟨mb.toNat, by omega⟩
        refine Ev.next (fun k => by rw [tapearchiveref26_Accept.j1]) (Ev.neg (by simp) ?_)
        simp only [Int.toNat_natCast]
        have fin : ∀ c : Nat, b + c ≤ l.length → c ≤ ml.length → Ev (fun n => tapearchiveref26_Accept.j3 n (c : Int) e k (uc l) me (b : Int) ms (uc ml) mk)
            (rAccept (if c < ml.length then (if (b : Int) + (c : Int) < k then (0, 0, [], 0, 21) else (me, mx k (mn mk ((b : Int) + (ml.length : Int))), l.take (b + c) ++ ml.drop c, (b : Int) + (ml.length : Int), 0)) else (me, mx k (mn mk ((b : Int) + (ml.length : Int))), l, (b : Int) + (ml.length : Int), 0))) := by
          intro c hc1 hc2
          refine Ev.next (fun k => by rw [tapearchiveref26_Accept.j3]) (Ev.both (rcopied_ev l h) ?_)
          rw [uc_length, uc_length, wrap_in (i := (b : Int) + (ml.length : Int)) (by omega) (by omega), wrap_in (i := (b : Int) + (c : Int)) (by omega) (by omega)]
          by_cases h4 : c < ml.length
          · refine Ev.pos (by omega) ?_
            rw [if_pos h4]
            by_cases h5 : (b : Int) + (c : Int) < k
            · refine Ev.pos (by omega) (Ev.done fun _ => ?_)
              rw [if_pos h5]
              rfl
            · refine Ev.neg (by omega) (Ev.pos (by omega) (Ev.pos (by omega) (Ev.bindS rfl (Ev.pos (by omega) (Ev.pos (by omega) ?_)))))
              rw [if_neg h5, show ((b : Int) + (c : Int)).toNat = b + c from by omega, Int.toNat_natCast, ← uc_drop, ← uc_take]
              refine Ev.both (rcopied_ev _ (sm_drop hm c)) (Ev.pos ?_ (Ev.done fun _ => ?_))
              · rw [uc_length, uc_length, List.length_take, List.length_drop]
                omega
              · rw [← uc_append]
                rfl
          · refine Ev.neg (by omega) (Ev.done fun _ => ?_)
            rw [if_neg h4]
            rfl
        have go : ∀ (d i : Nat), i + d = ml.length → b + i ≤ l.length ∨ i = 0 → Ev (fun n => tapearchiveref26_Accept.l0 n (i : Int) e k (uc l) me (b : Int) ms (uc ml) mk)
            (rAccept (if i + common (l.drop (b + i)) (ml.drop i) < ml.length then (if (b : Int) + ((i + common (l.drop (b + i)) (ml.drop i) : Nat) : Int) < k then (0, 0, [], 0, 21) else (me, mx k (mn mk ((b : Int) + (ml.length : Int))), l.take (b + (i + common (l.drop (b + i)) (ml.drop i))) ++ ml.drop (i + common (l.drop (b + i)) (ml.drop i)), (b : Int) + (ml.length : Int), 0)) else (me, mx k (mn mk ((b : Int) + (ml.length : Int))), l, (b : Int) + (ml.length : Int), 0))) := by
          intro d
          induction d with
          | zero =>
            intro i hi hbi
            refine Ev.next (fun k => by rw [tapearchiveref26_Accept.l0]) (Ev.neg (by rw [uc_length]; omega) ?_)
            rw [common_end1 (by omega), Nat.add_zero]
            exact fin i (by omega) (by omega)
          | succ d ih =>
            intro i hi hbi
            have hlt : i < ml.length := by omega
            refine Ev.next (fun k => by rw [tapearchiveref26_Accept.l0]) (Ev.pos (by rw [uc_length]; omega) ?_)
            rw [wrap_in (i := (b : Int) + (i : Int)) (by omega) (by omega), show (b : Int) + (i : Int) = ((b + i : Nat) : Int) from by omega, uc_length]
            by_cases h6 : b + i < l.length
            · refine Ev.pos (by omega) (Ev.pos (by omega) (Ev.pos (by omega) ?_))
              rw [rduc h6, rduc hlt, common_step h6 hlt, show (toR l[b + i]).f0 = l[b + i].f0 from rfl, show (toR ml[i]).f0 = ml[i].f0 from rfl]
              by_cases h7 : l[b + i].f0 = ml[i].f0
              · refine Ev.pos h7 ?_
                rw [if_pos h7, wrap_in (by omega) (by omega)]
                have := ih (i + 1) (by omega) (.inl (by omega))
                rw [show b + (i + 1) = b + i + 1 from rfl, show i + 1 + common (l.drop (b + i + 1)) (ml.drop (i + 1)) = i + (common (l.drop (b + i + 1)) (ml.drop (i + 1)) + 1) from by omega] at this
                exact this
              · refine Ev.neg h7 ?_
                rw [if_neg h7, Nat.add_zero]
                exact fin i (by omega) (by omega)
            · refine Ev.neg (by omega) ?_
              rw [common_end2 (by omega), Nat.add_zero]
              exact fin i (by omega) (by omega)
        have := go ml.length 0 (by omega) (.inr rfl)
        rw [Nat.add_zero, List.drop_zero, Nat.zero_add] at this
        exact this
      · rw [show (endS l mb != ms) = true from bne_iff_ne.2 h3, if_pos (Or.inr h3)]
        exact bad1
end Go.Proofs.Ytbigcpjlahkggaa.Rep
end
section
namespace Go.Proofs.Ytbigcpjlahkggaa.Rep
open Go.RowKit Go.Proofs.Ytbigcpjlahkggaa.Q Go.Proofs.YtbigcpjlahkggaaW.PrintWords Go.Proofs.YtbigcpjlahkggaaW.PrintMore Go.Proofs.YtbigcpjlahkggaaW.EvMore
theorem awake_ev : Ev (fun k => tapearchivelaw26_awake.f k) true := by
  unfold tapearchivelaw26_awake.f
  have hN : smN (List.replicate 3 z35) := ⟨by simp, fun x hx => by rw [List.eq_of_mem_replicate hx]; exact ⟨by simp [z35], by simp [z35]⟩⟩
  refine Ev.pos (by omega) (Ev.bindS rfl (Ev.both (elect_ev _ _ hN) ?_))
  rw [show electS (List.replicate 3 z35) [true, true, false] = (0, 1, 0, [], 0) from by kernel_rfl]
  refine Ev.pos rfl (Ev.pos rfl ?_)
  have h0 : sm [] := ⟨by simp, by simp⟩
  have h1 : sm [⟨1, [120]⟩] := ⟨by simp, fun x hx => by rw [List.mem_singleton.1 hx]; simp⟩
  refine Ev.next (fun k => by rw [tapearchivelaw26_awake.j0]) (Ev.neg (by simp) (Ev.both (append_ev 1 0 [] h0 [120] (by simp)) ?_))
  rw [show appendS 1 0 [] [120] = (1, 0, [⟨1, [120]⟩], 0) from by kernel_rfl]
  refine Ev.pos rfl (Ev.next (fun k => by rw [tapearchivelaw26_awake.j1]) (Ev.neg (by simp) (Ev.both (offer_ev 1 0 [⟨1, [120]⟩] h1 0) ?_)))
  rw [show offerS 1 0 [⟨1, [120]⟩] 0 = (1, 0, 0, [⟨1, [120]⟩], 0, 0) from by kernel_rfl]
  refine Ev.pos (by simp) ?_
  rw [show rd_T35 (List.replicate 3 z35) 1 = z35 from rfl]
  refine Ev.both (accept_ev 0 0 [] 1 0 0 [⟨1, [120]⟩] 0 h0 h1) ?_
  rw [show acceptS 0 0 [] 1 0 0 [⟨1, [120]⟩] 0 = (1, 0, [⟨1, [120]⟩], 1, 0) from by kernel_rfl]
  refine Ev.pos rfl (Ev.pos rfl (Ev.pos rfl (Ev.pos rfl (Ev.pos rfl (Ev.both (committed_ev 1 0 [⟨1, [120]⟩] (by simp) [1, 1, 0] (by simp)) (Ev.done fun _ => ?_))))))
  have hm : median [1, 1, 0] (1 : Nat) = 1 := by
    have h2 := median_in [1, 1, 0] (1 : Nat) (by omega)
    have h3 := (median_ge [1, 1, 0] (1 : Nat) 1 (by omega) (by omega)).2 (by decide)
    omega
  have hc : commitS 1 0 [⟨1, [120]⟩] [1, 1, 0] = 1 := by
    unfold commitS
    rw [if_pos (by kernel_rfl)]
    rw [show median [1, 1, 0] (([⟨1, [120]⟩] : List S87).length : Int) = 1 from hm]
    rfl
  rw [hc]
  rfl
theorem node_ev (e k : Int) (l : List S87) (h : sm l) : Ev (fun n => tapearchivelaw26_node.f n e k (uc l)) (e, k, l) := by
  unfold tapearchivelaw26_node.f
  exact Ev.both (records_ev l h) (Ev.done fun _ => rfl)
theorem sameNode_ev (e k : Int) (l : List S87) (h : sm l) : Ev (fun n => tapearchivelaw26_sameNode.f n e k l e k (uc l)) true := by
  unfold tapearchivelaw26_sameNode.f
  exact Ev.pos rfl (Ev.pos rfl (Ev.both (sameRecords_ev l h) (Ev.done fun _ => rfl)))
theorem sm_nil : sm [] := ⟨by simp, by simp⟩
theorem sm_append {l m : List S87} (h : sm l) (h2 : sm m) (h3 : l.length + m.length ≤ 1000000) : sm (l ++ m) := ⟨by rw [List.length_append]; exact h3, fun x hx => by
  rcases List.mem_append.1 hx with hx | hx
  · exact h.2 x hx
  · exact h2.2 x hx⟩
theorem sm_take {l : List S87} (h : sm l) (n : Nat) : sm (l.take n) := ⟨by rw [List.length_take]; have := h.1; omega, fun x hx => h.2 x ((List.take_sublist n l).subset hx)⟩
end Go.Proofs.Ytbigcpjlahkggaa.Rep
end
section
namespace Go.Proofs.Ytbigcpjlahkggaa.Rep
open Go.RowKit Go.Proofs.Ytbigcpjlahkggaa.Q Go.Proofs.YtbigcpjlahkggaaW.PrintWords Go.Proofs.YtbigcpjlahkggaaW.PrintMore Go.Proofs.YtbigcpjlahkggaaW.EvMore
theorem message_ev (e b s : Int) (l : List S87) (k : Int) (h : sm l) : Ev (fun n => tapearchivelaw26_message.f n e b s (uc l) k) (e, b, s, l, k) := by
  unfold tapearchivelaw26_message.f
  exact Ev.both (records_ev l h) (Ev.done fun _ => rfl)
theorem accepts : SReplicaAccepts.Pure := by
  intro x0 x1 _ _
  obtain ⟨e, k, l0⟩ := x0
  obtain ⟨me, mb, ms, ml0, mk⟩ := x1
  suffices h : Ev (fun n => tapearchivelaw26_ReplicaAccepts.f n e k l0 me mb ms ml0 mk) true from Ev.get h
  obtain ⟨l, rfl⟩ : ∃ l, l0 = uc l := ⟨cv l0, (uc_cv l0).symm⟩
  obtain ⟨ml, rfl⟩ : ∃ l, ml0 = uc l := ⟨cv ml0, (uc_cv ml0).symm⟩
  unfold tapearchivelaw26_ReplicaAccepts.f
  have out : Ev (fun n => tapearchivelaw26_ReplicaAccepts.j0 n true e k (uc l) me mb ms (uc ml) mk) true := by
    refine Ev.next (fun k => by rw [tapearchivelaw26_ReplicaAccepts.j0]) (Ev.pos rfl (Ev.both awake_ev ?_))
    exact Ev.done fun _ => rfl
  refine Ev.both (few_ev l) ?_
  cases hf : few l with
  | false => exact Ev.neg (by simp) out
  | true =>
    refine Ev.pos rfl (Ev.both (few_ev ml) ?_)
    cases hf2 : few ml with
    | false => exact out
    | true =>
      obtain ⟨hs, hl⟩ := sm_few hf
      obtain ⟨hs2, hl2⟩ := sm_few hf2
      have h1 : sm (acceptS e k l me mb ms ml mk).2.2.1 := by
        unfold acceptS
        split
        · split
          · exact sm_nil
          · split
            · exact sm_nil
            · simp only
              split
              · split
                · exact sm_nil
                · exact sm_append (sm_take hs _) (sm_drop hs2 _) (by rw [List.length_take, List.length_drop]; omega)
              · exact hs
        · exact sm_nil
      refine Ev.next (fun k => by rw [tapearchivelaw26_ReplicaAccepts.j0]) (Ev.neg (by simp) ?_)
      refine Ev.both (node_ev e k l hs) (Ev.both (message_ev me mb ms ml mk hs2) (Ev.both (accept_ev e k l me mb ms ml mk hs hs2) (Ev.both (raccept_ev e k l me mb ms ml mk hs hs2) ?_)))
      refine Ev.pos rfl (Ev.pos rfl (Ev.both (sameNode_ev _ _ _ h1) (Ev.pos rfl (Ev.both awake_ev ?_))))
      exact Ev.done fun _ => rfl
end Go.Proofs.Ytbigcpjlahkggaa.Rep
namespace Go.Proofs.Ytbigcpjlahkggaa.Pure
theorem ReplicaAccepts : Go.Proofs.Ytbigcpjlahkggaa.SReplicaAccepts.Pure := Rep.accepts
end Go.Proofs.Ytbigcpjlahkggaa.Pure
end
