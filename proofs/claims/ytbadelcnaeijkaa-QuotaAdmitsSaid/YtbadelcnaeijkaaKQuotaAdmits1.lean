import Derived.Test.YtbadelcnaeijkaaKQuotaAdmits0
import Derived.SizedLaws
import Derived.ChangeArms
import Derived.DataReads
import Derived.DataElems
set_option linter.unusedVariables false
set_option linter.unusedSimpArgs false
section
namespace Go.Proofs.YtbadelcnaeijkaaW.Opens
open Go.RowKit Go.Proofs.YtbadelcnaeijkaaW.PrintWords
def OpensN (P : Program) (n : Nat) (t : TypeId) {α : Type} (d : Kd α) (Wf : α → Prop) : Prop :=
  ∀ (H : Type) (enc : TypeId × Value → H) (w : World) (fuel : Nat) (cs : List Value) (y : DataW H × List MemPlace), fuel ≤ n →
    DataW.trod enc P w 0 (fun _ => true) true fuel t cs = some y → (∀ b ∈ DataW.weights P t y.1, b ≤ reachBytes) → ∃ x, d.K w x cs ∧ Wf x
theorem opens_int {P : Program} {t : TypeId} {k : IntKind} (n : Nat) (h : P.underlying t = some (.int k)) : OpensN P n t (Kd.int k) (fun x => (Lit.int k x).wf = true) := by
  intro H enc w fuel cs y _ ht _
  obtain ⟨x, rfl, rfl, hw⟩ := DataW.trod_int h ht
  exact ⟨x, rfl, hw⟩
theorem opens_string {P : Program} {t : TypeId} (n : Nat) (h : P.underlying t = some .string) : OpensN P n t Kd.string (fun s => s.size ≤ 140737488351232) := by
  intro H enc w fuel cs y _ ht hs
  obtain ⟨x, rfl, rfl, _⟩ := DataW.trod_string h ht
  have h1 := hs x.data.toList.length (by simp [DataW.weights])
  exact ⟨x, rfl, by simpa [reachBytes] using h1⟩
theorem exists_list {α : Type} {p : Nat → α → Prop} : ∀ (n : Nat), (∀ i, i < n → ∃ x, p i x) → ∃ l : List α, l.length = n ∧ ∀ i x, l[i]? = some x → p i x
  | 0, _ => ⟨[], rfl, fun i x h => by simp at h⟩
  | n + 1, h => by
    obtain ⟨l, hl, hp⟩ := exists_list n (fun i hi => h i (by omega))
    obtain ⟨x, hx⟩ := h n (by omega)
    refine ⟨l ++ [x], by simp [hl], fun i y hy => ?_⟩
    by_cases hi : i < n
    · exact hp i y (by rwa [List.getElem?_append_left (by omega)] at hy)
    · rw [List.getElem?_append_right (by omega)] at hy
      have h0 : i - l.length = 0 := by
        rcases Nat.eq_zero_or_pos (i - l.length) with h0 | h0
        · exact h0
        · rw [List.getElem?_eq_none (by simp; omega)] at hy
          cases hy
      rw [h0] at hy
      have : i = n := by omega
      subst this
      simp at hy
      exact hy ▸ hx
theorem weightsAll_mem {H : Type} {P : Program} {e : TypeId} : ∀ {l : List (DataW H)} {i : Nat} {d : DataW H}, l[i]? = some d → ∀ b ∈ DataW.weights P e d, b ∈ DataW.weightsAll P e l
  | [], i, d, h, _, _ => by simp at h
  | x :: r, 0, d, h, b, hb => by
    simp at h
    subst h
    rw [DataW.weightsAll]
    exact List.mem_append_left _ hb
  | x :: r, i + 1, d, h, b, hb => by
    rw [DataW.weightsAll]
    exact List.mem_append_right _ (weightsAll_mem (i := i) (by simpa using h) b hb)
theorem opens_slice {P : Program} {n : Nat} {t e : TypeId} {α : Type} {d : Kd α} {Wf : α → Prop} (h : P.underlying t = some (.slice e)) (hc : P.cellsOf e = d.sz) {B : Nat} (hB : P.bytesOf e = B) (he : OpensN P n e d Wf) :
    OpensN P (n + 1) t (Kd.slice e d) (fun l => l.length ≤ maxLen ∧ l.length * B ≤ 140737488351232 ∧ ∀ x ∈ l, Wf x) := by
  intro H enc w fuel cs y hn ht hs
  rcases DataW.trod_slice h ht with ⟨rfl, rfl⟩ | ⟨a, len, cap, elems, rest, m, rfl, rfl, rfl, _, hl, hm, hlen, hel, _, _⟩
  · exact ⟨[], ⟨none, 0, rfl, Nat.le_refl _, rfl, by simp, fun h => by simp at h⟩, by simp, by simp, by simp⟩
  · have hw : ∀ i, i < len → ∃ x, ∃ c, w.cells? 0 (a.add (i * P.cellsOf e)) (P.cellsOf e) = some c ∧ d.K w x c ∧ Wf x := by
      intro i hi
      have hg := hel i hi
      rw [List.getElem?_eq_getElem (by omega)] at hg
      obtain ⟨c, hc1, hc2⟩ := Option.bind_eq_some_iff.1 hg
      obtain ⟨x, hx, hwf⟩ := he H enc w m c elems[i] (by omega) hc2 (fun b hb => hs b (by
        rw [DataW.weights, h]
        refine List.mem_cons_of_mem _ (List.mem_append_left _ (weightsAll_mem (i := i) ?_ b hb))
        rw [List.getElem?_map, List.getElem?_eq_getElem (by omega)]
        rfl))
      exact ⟨x, c, hc1, hx, hwf⟩
    obtain ⟨l, hll, hp⟩ := exists_list len hw
    have hle : len * B ≤ reachBytes := by
      have := hs ((elems.length + rest.length) * B) (by rw [DataW.weights, h]; simp [hB])
      refine Nat.le_trans (Nat.mul_le_mul_right _ ?_) this
      omega
    refine ⟨l, ⟨some a, cap, by rw [hll], by omega, rfl, by rw [hll]; simp only [maxLen] at hm; omega, fun _ => ⟨a, rfl, fun j p hj => ?_⟩⟩, by omega, by rw [hll]; simpa [reachBytes] using hle, fun x hx => ?_⟩
    · obtain ⟨c, hc1, hk, _⟩ := hp j p hj
      obtain ⟨_, hcl, hcell⟩ := World.cells?_some hc1
      refine ⟨c, d.K_len hk, hk, fun i u hu => ?_⟩
      have hi : i < P.cellsOf e := by
        rw [← hcl]
        exact (List.getElem?_eq_some_iff.1 hu).1
      rw [← hu, ← hcell i hi, Addr.add_add, hc]
    · obtain ⟨i, hi⟩ := List.getElem?_of_mem hx
      obtain ⟨_, _, _, hwf⟩ := hp i x hi
      exact hwf
def OpensF (P : Program) (n : Nat) (fs : List Field) (off : Nat) {α : Type} (d : Kd α) (Wf : α → Prop) : Prop :=
  ∀ (H : Type) (enc : TypeId × Value → H) (w : World) (fuel : Nat) (cs : List Value) (xs : List (DataW H × List MemPlace)), fuel ≤ n → cs.length = off + d.sz → xs.length = fs.length →
    (∀ (i : Nat) (f : Field), fs[i]? = some f → DataW.trod enc P w 0 (fun _ => true) true fuel f.type ((cs.drop f.offset).take (P.cellsOf f.type)) = xs[i]?) →
    (∀ b ∈ DataW.weightsEach P (fs.map (·.type)) (xs.map (·.1)), b ≤ reachBytes) → ∃ x, d.K w x (cs.drop off) ∧ Wf x
theorem opensF_one {P : Program} {n : Nat} {f : Field} {off : Nat} {α : Type} {d : Kd α} {Wf : α → Prop} (ho : f.offset = off) (hc : P.cellsOf f.type = d.sz) (h : OpensN P n f.type d Wf) : OpensF P n [f] off d Wf := by
  intro H enc w fuel cs xs hn hl hx ht hs
  match xs, hx with
  | [y], _ =>
    have h0 := ht 0 f rfl
    simp only [List.getElem?_cons_zero] at h0
    have e : (cs.drop f.offset).take (P.cellsOf f.type) = cs.drop off := by
      rw [ho]
      exact List.take_of_length_le (by rw [List.length_drop]; omega)
    rw [e] at h0
    exact h H enc w fuel _ y hn h0 (fun b hb => hs b (by simp only [List.map_cons, List.map_nil, DataW.weightsEach]; exact List.mem_append_left _ hb))
theorem opensF_cons {P : Program} {n : Nat} {f : Field} {fs : List Field} {off : Nat} {α β : Type} {d : Kd α} {d2 : Kd β} {Wf : α → Prop} {Wf2 : β → Prop} (ho : f.offset = off) (hc : P.cellsOf f.type = d.sz) (h : OpensN P n f.type d Wf) (h2 : OpensF P n fs (off + d.sz) d2 Wf2) :
    OpensF P n (f :: fs) off (Kd.pair d d2) (fun x => Wf x.1 ∧ Wf2 x.2) := by
  intro H enc w fuel cs xs hn hl hx ht hs
  match xs, hx with
  | y :: ys, hx =>
    have h0 := ht 0 f rfl
    simp only [List.getElem?_cons_zero] at h0
    have hl' : cs.length = off + (d.sz + d2.sz) := hl
    simp only [List.map_cons, DataW.weightsEach] at hs
    obtain ⟨x, hk, hw⟩ := h H enc w fuel _ y hn h0 (fun b hb => hs b (List.mem_append_left _ hb))
    obtain ⟨x2, hk2, hw2⟩ := h2 H enc w fuel cs ys hn (by omega) (by simpa using hx) (fun i g hg => by simpa using ht (i + 1) g (by simpa using hg)) (fun b hb => hs b (List.mem_append_right _ hb))
    refine ⟨(x, x2), ⟨_, _, ?_, hk, hk2⟩, hw, hw2⟩
    rw [ho, hc, ← List.drop_drop]
    exact (List.take_append_drop _ _).symm
theorem opens_struct {P : Program} {n : Nat} {t : TypeId} {fs : Array Field} {α β : Type} {d : Kd α} {Wf : α → Prop} {f : β → α} (h : P.underlying t = some (.struct fs)) (hc : P.cellsOf t = d.sz) (hf : ∀ y, ∃ x, f x = y) (hF : OpensF P n fs.toList 0 d Wf) :
    OpensN P (n + 1) t (Kd.iso d f) (fun x => Wf (f x)) := by
  intro H enc w fuel cs y hn ht hs
  obtain ⟨xs, m, rfl, rfl, hl, hx, hg⟩ := DataW.trod_struct h ht
  rw [DataW.weights, h] at hs
  obtain ⟨x, hk, hw⟩ := hF H enc w m cs xs (by omega) (by omega) (by simpa using hx) (fun i g hg2 => hg i g (by simpa using hg2)) hs
  obtain ⟨z, rfl⟩ := hf x
  exact ⟨z, by rw [List.drop_zero] at hk; exact hk, hw⟩
theorem opens_le {P : Program} {n m : Nat} {t : TypeId} {α : Type} {d : Kd α} {Wf : α → Prop} (h : OpensN P n t d Wf) (hm : m ≤ n) : OpensN P m t d Wf :=
  fun H enc w fuel cs y hn => h H enc w fuel cs y (Nat.le_trans hn hm)
theorem opens_arg {P : Program} {t : TypeId} {α : Type} {d : Kd α} {Wf : α → Prop} (h : ∀ n, OpensN P n t d Wf) {H : Type} {enc : TypeId × Value → H} {W : World} {v : Value} {y : DataW H} {ps : List MemPlace} {ts : List TypeId} {ds : List (DataW H)} {j : Nat}
    (ht : DataW.Trod enc P W 0 (fun _ => true) true t v y ps) (hsz : (DataW.weightsEach P ts ds).all (· ≤ reachBytes) = true) (hj : ts[j]? = some t) (hd : ds[j]? = some y) : ∃ x, d.K W x v.cells.toList ∧ Wf x := by
  obtain ⟨fuel, hf⟩ := ht
  exact h fuel H enc W fuel _ (y, ps) (Nat.le_refl _) hf (fun b hb => by
    have := List.all_eq_true.1 hsz b (DataW.weights_mem_each hj hd b hb)
    simpa using this)
end Go.Proofs.YtbadelcnaeijkaaW.Opens
end
section
namespace Go.Proofs.YtbadelcnaeijkaaW.EvMore
open Go.RowKit Go.Proofs.YtbadelcnaeijkaaW.PrintWords Go.Proofs.YtbadelcnaeijkaaW.PrintMore
theorem Ev.pos {α : Type} {c : Prop} [Decidable c] {f g : Nat → Option α} {r : α} (h : c) (k : Ev f r) : Ev (fun n => if c then f n else g n) r := by
  obtain ⟨K, hK⟩ := k
  exact ⟨K, fun n hn => (if_pos h).trans (hK n hn)⟩
theorem Ev.neg {α : Type} {c : Prop} [Decidable c] {f g : Nat → Option α} {r : α} (h : ¬ c) (k : Ev g r) : Ev (fun n => if c then f n else g n) r := by
  obtain ⟨K, hK⟩ := k
  exact ⟨K, fun n hn => (if_neg h).trans (hK n hn)⟩
theorem Ev.bindS {α β : Type} {x : Option α} {f : Nat → α → Option β} {a : α} {r : β} (h : x = some a) (k : Ev (fun n => f n a) r) : Ev (fun n => x.bind (f n)) r := by
  obtain ⟨K, hK⟩ := k
  exact ⟨K, fun n hn => by rw [h]; exact hK n hn⟩
theorem Ev.both {α β : Type} {g : Nat → Option α} {f : Nat → α → Option β} {a : α} {r : β} (h : Ev g a) (k : Ev (fun n => f n a) r) : Ev (fun n => (g n).bind (f n)) r := PrintWords.Ev.bind h k
theorem Ev.next {α : Type} {g f : Nat → Option α} {r : α} (h : ∀ k, g (k + 1) = f k) (k : Ev f r) : Ev g r := PrintWords.Ev.step h k
theorem Ev.done {α : Type} {f : Nat → Option α} {r : α} (h : ∀ k, f k = some r) : Ev f r := ⟨0, fun k _ => h k⟩
theorem Ev.get {α : Type} {f : Nat → Option α} {r : α} (h : Ev f r) : ∃ k, f k = some r := by
  obtain ⟨K, hK⟩ := h
  exact ⟨K, hK K (Nat.le_refl _)⟩
def bs (s : ByteArray) : List UInt8 := s.data.toList
theorem toList_bs (s : ByteArray) : s.toList = bs s := ByteArray.toList_eq s
theorem bs_inj {s t : ByteArray} (h : bs s = bs t) : s = t := WideShapes.bytes_inj h
theorem wrap_in {i : Int} (h0 : -9223372036854775808 ≤ i) (h : i ≤ 9223372036854775807) : wrap64 i = i := by unfold wrap64; omega
theorem cast_succ (n : Nat) : ((n : Int) + 1) = ((n + 1 : Nat) : Int) := by omega
end Go.Proofs.YtbadelcnaeijkaaW.EvMore
end
