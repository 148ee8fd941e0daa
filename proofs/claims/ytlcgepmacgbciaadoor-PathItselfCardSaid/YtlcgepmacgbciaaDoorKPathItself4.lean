import Derived.Test.YtlcgepmacgbciaaDoorKPathItself3
set_option linter.unusedVariables false
set_option linter.unusedSimpArgs false
namespace Go.Proofs.YtlcgepmacgbciaaDoor.Q
open Go.RowKit Go.Proofs.YtlcgepmacgbciaaDoorW.PrintWords Go.Proofs.YtlcgepmacgbciaaDoorW.PrintLast Go.Proofs.YtlcgepmacgbciaaDoorW.PrintMore
attribute [local go_sem] max2_int min2_int max_two min_two max_three min_three max_four min_four
attribute [local go_sem ↓] isSome_setCell
attribute [local go_sem] string_gtr
set_option linter.unusedVariables false
set_option linter.unusedSimpArgs false
theorem isB_below {T e : TypeId} {B b : Nat} {bs : List Value} {W W' : World} (h : Lib.IsBuilderF T e B b bs W) (hb : Below W.heap.size W W') : Lib.IsBuilderF T e B b bs W' := by
  have key : ∀ p, Lib.BuilderAtF T e B b p bs W → Lib.BuilderAtF T e B b p bs W' := by
    intro p h
    have hlt := h.lt
    obtain ⟨hB, v, hv, hown, hne⟩ := h
    exact ⟨hB, v, (hb.block b hlt).trans hv, hown.kept (row := none) ⟨hb.os, hb.tape, hb.output, hb.size, fun k hk _ => hb.block k hk⟩ (Classical.em _), hne⟩
  exact h.elim (fun x => .inl (key _ x)) (fun x => .inr (key _ x))
def path_Text.cat (l : List ByteArray) : List UInt8 := (l.map fun x => 47 :: x.data.toList).flatten
def path_Text.f (k : Nat) (l0 : List ByteArray) : Option ByteArray := if l0.length ≤ 140737488355328 ∧ (path_Text.cat l0).length ≤ 140737488355328 then ((path_Parse.f k ⟨(path_Text.cat l0).toArray⟩).bind fun bt => (if bt.2 = 0 then (if bt.1.length ≤ 9223372036854775807 then (if bt.1 = l0 then some ⟨(path_Text.cat l0).toArray⟩ else some ⟨#[]⟩) else none) else some ⟨#[]⟩)) else none
theorem path_Text.mono (l0 : List ByteArray) (k : Nat) : LeO (path_Text.f k l0) (path_Text.f (k + 1) l0) := by
  intro r h
  unfold path_Text.f at h ⊢
  split at h
  · rename_i hc
    rw [if_pos hc]
    obtain ⟨bt, hbt, h2⟩ := Option.bind_eq_some_iff.mp h
    exact Option.bind_eq_some_iff.mpr ⟨bt, path_Parse.mono _ _ _ hbt, h2⟩
  · cases h
theorem cat_take_succ (l : List ByteArray) (i : Nat) (h : i < l.length) : path_Text.cat (l.take (i + 1)) = path_Text.cat (l.take i) ++ 47 :: (l[i]'h).data.toList := by
  unfold path_Text.cat
  rw [List.take_succ_eq_append_getElem h, List.map_append, List.flatten_append]
  simp
theorem cat_take_le (l : List ByteArray) (i : Nat) : (path_Text.cat (l.take i)).length ≤ (path_Text.cat l).length := by
  conv => rhs; rw [← List.take_append_drop i l]
  unfold path_Text.cat
  rw [List.map_append, List.flatten_append, List.length_append]
  omega
theorem path_Text.calls (k : Nat) (A0 : Option Addr) (c0 : Nat) (l0 : List ByteArray) (r : ByteArray) (w : World) (hG : Go.Proofs.YtlcgepmacgbciaaDoorX.Glob w) (hr0 : Kd.C Kd.string w A0 l0.length l0) (hc0 : l0.length ≤ c0) (h : path_Text.f k l0 = some r) :
    Calls Tryd.prog 19 #[.slice A0 l0.length c0] w fun e w' => e = .returned (.string r) ∧ Below w.heap.size w w' := by
  unfold path_Text.f at h
  split at h
  case isFalse => cases h
  rename_i hb
  obtain ⟨hb1, hb2⟩ := hb
  have HR0 := Aside0.mk hr0
  have HC0 := Aside0.mk hc0
  clear hr0 hc0
  have HB := Aside0.mk (Below.refl w.heap.size w)
  obtain ⟨⟨t0, t1⟩, hp, h2⟩ := Option.bind_eq_some_iff.mp h
  clear h
  have HP := Aside0.mk hp
  have H' := Aside0.mk h2
  clear hp h2
  go_enter Tryd.func19, Tryd.ntmps19
  go_wp2
  go_loopg [10] l0.length (fun kq v10 w' => ∃ i : Nat, v10 = .int .i64 (i : Int) ∧ Aside0 (i + kq = l0.length) ∧ Aside0 (Lib.IsBuilderF 37 5 w.heap.size w.heap.size (Lib.byteCells (path_Text.cat (l0.take i))) w') ∧ Aside0 (Below w.heap.size w w'))
  case atStart => exact ⟨0, rfl, ⟨by omega⟩, ⟨Lib.IsBuilderF.of (Lib.fresh_isBuilder 37 5 w)⟩, ⟨by repeat (first | (with_reducible first | exact HB.out | apply below_alloc | apply pw_below_drewN | apply below_drew1) | exact HB.out)⟩⟩
  case round =>
    obtain ⟨i, rfl, HN, HI, HB⟩ := hrel
    by_cases c2 : i < l0.length
    · have c2b0 : decide ((i : Int) < (l0.length : Int)) = true := decide_eq_true (by omega)
      have p1 : 0 ≤ (i : Int) := by omega
      have q1 : (i : Int) < (l0.length : Int) := by omega
      obtain ⟨ad1, e1, hx1_0⟩ := Kd.at_string HR0.out (i : Int) p1 q1
      cases e1
      replace hx1_0 := (HB.out.cell (World.block_lt_of_cell? w _ hx1_0)).trans hx1_0
      have hrd : rdOf ByteArray.empty l0 (i : Int) = l0[i]'c2 := by
        unfold rdOf
        rw [Int.toNat_natCast, List.getD_eq_getElem?_getD, List.getElem?_eq_getElem c2]
        rfl
      rw [hrd, Int.toNat_natCast] at hx1_0
      have hcs := cat_take_succ l0 i c2
      have hcl := cat_take_le l0 (i + 1)
      have hsz : ((⟨#[47]⟩ : ByteArray) ++ l0[i]'c2).size = 1 + (l0[i]'c2).size := by rw [ByteArray.size_append]; rfl
      have hlen : (path_Text.cat (l0.take (i + 1))).length = (path_Text.cat (l0.take i)).length + (1 + (l0[i]'c2).size) := by
        rw [hcs, List.length_append, List.length_cons]
        show _ + ((l0[i]'c2).data.toList.length + 1) = _
        rw [show (l0[i]'c2).data.toList.length = (l0[i]'c2).size from rfl]
        omega
      have hsum : 1 + (l0[i]'c2).size ≤ 9223372036854775807 := by omega
      have hsum1 : decide (1 + (l0[i]'c2).size ≤ 9223372036854775807) = true := decide_eq_true hsum
      have hsum2 : (9223372036854775807 < 1 + (l0[i]'c2).size) = False := eq_false (Nat.not_lt.2 hsum)
      have hsum3 := eq_true hsum
      have hw : IntKind.i64.wrap ((i : Int) + 1) = ((i + 1 : Nat) : Int) := by
        rw [i64_w]
        unfold wrap64
        omega
      replace p1 := eq_true p1
      replace q1 := eq_true q1
      go_wp2_with (first | ((with_reducible refine gate_callee (f := 30) rfl ?_); refine goesL_ (some 16) rfl rfl Tryd.func30 (by kernel_rfl) rfl #[.pointer (some ⟨w.heap.size, 0, none⟩), .string ((⟨#[47]⟩ : ByteArray) ++ l0[i]'c2)] rfl (by (try simp only [List.map_toArray, List.map_cons, List.map_nil]); first | done | rfl | (simp only [List.length_drop, List.length_take]; rfl)) ?_))
      refine Calls.mono (Tryd.Builder_WriteString_f w.heap.size w.heap.size _ ((⟨#[47]⟩ : ByteArray) ++ l0[i]'c2) _ HI.out ?_ (below_size HB.out)) ?_
      · rw [hsz]
        simp only [Lib.byteCells, List.length_map]
        omega
      rintro e w6 ⟨rfl, ho0, hb⟩
      refine ⟨_, rfl, ?_⟩
      have HB2 := Aside0.mk (HB.out.trans hb)
      clear HB
      have HB := HB2
      clear HB2 hb
      go_wp2
      go_roundg (l0.length - (i + 1))
      case measure => have := HN.out; omega
      case rel =>
        refine ⟨i + 1, by simp, ⟨by have := HN.out; omega⟩, ⟨.inr ?_⟩, HB⟩
        have e : Lib.byteCells (path_Text.cat (l0.take i)) ++ Lib.strCells ((⟨#[47]⟩ : ByteArray) ++ l0[i]'c2) = Lib.byteCells (path_Text.cat (l0.take (i + 1))) := by
          rw [hcs]
          simp [Lib.byteCells, Lib.strCells, ByteArray.toList_eq]
        rw [← e]
        exact ho0
    · have c2b0 : decide ((i : Int) < (l0.length : Int)) = false := decide_eq_false (by omega)
      have c2b1 : decide (i < l0.length) = false := decide_eq_false (by omega)
      have c2b2 : (i < l0.length) = False := eq_false (by omega)
      have hfull : l0.take i = l0 := List.take_of_length_le (by omega)
      have HI2 := HI.out
      rw [hfull] at HI2
      clear HI HN hfull c2
      have HI := Aside0.mk HI2
      clear HI2
      go_wp2_with (first | ((with_reducible refine gate_callee (f := 31) rfl ?_); refine goesL_ (some 19) rfl rfl Tryd.func31 (by kernel_rfl) rfl #[.pointer (some ⟨w.heap.size, 0, none⟩)] rfl (by (try simp only [List.map_toArray, List.map_cons, List.map_nil]); first | done | rfl | (simp only [List.length_drop, List.length_take]; rfl)) ?_))
      refine (Tryd.Builder_String_any_f w.heap.size w.heap.size _ _ HI.out (below_size HB.out)).mono ?_
      rintro e w6 ⟨rfl, hi6, hb6⟩
      refine ⟨_, rfl, ?_⟩
      have HB2 := Aside0.mk (HB.out.trans hb6)
      have HI2 := Aside0.mk hi6
      clear HB HI hi6 hb6
      have HB := HB2
      have HI := HI2
      clear HB2 HI2
      go_wp2_with (first | ((with_reducible refine gate_callee (f := 13) rfl ?_); refine goesL_ (some 20) rfl rfl Tryd.func13 (by kernel_rfl) rfl #[.string ⟨(path_Text.cat l0).toArray⟩] rfl (by (try simp only [List.map_toArray, List.map_cons, List.map_nil]); first | done | rfl | (simp only [List.length_drop, List.length_take]; rfl)) ?_))
      refine (path_Parse.calls k _ t0 t1 _ (Go.Proofs.YtlcgepmacgbciaaDoorX.Glob.below hG HB.out) HP.out).mono ?_
      rintro e w7 ⟨v0, rfl, hv0, hb7⟩
      refine ⟨_, rfl, ?_⟩
      have HI2 := Aside0.mk (isB_below HI.out hb7)
      have HB2 := Aside0.mk (below_step HB.out hb7)
      have HO := Aside0.mk (Kd.R_lower hv0 (below_size HB.out))
      clear HB HI hv0 hb7
      have HB := HB2
      have HI := HI2
      clear HB2 HI2
      have H := H'.out
      clear H'
      obtain ⟨Ao1, co1, eo1⟩ := Kd.R_slice HO.out
      subst eo1
      by_cases c3 : t1 = 0
      · rw [if_pos c3] at H
        subst c3
        by_cases c4 : t0.length ≤ 9223372036854775807
        · rw [if_pos c4] at H
          have HQ : slices_Equal_string_string.f t0 l0 = some (decide (t0 = l0)) := if_pos ⟨c4, by omega⟩
          go_wp2_with (first | ((with_reducible refine gate_callee (f := 32) rfl ?_); refine goesL_ (some 28) rfl rfl Tryd.func32 (by kernel_rfl) rfl #[.slice Ao1 t0.length co1, .slice A0 l0.length c0] rfl (by (try simp only [List.map_toArray, List.map_cons, List.map_nil]); first | done | rfl | (simp only [List.length_drop, List.length_take]; rfl)) ?_))
          refine (slices_Equal_string_string.calls _ _ t0 _ _ l0 _ _ (Kd.R_reads' HO.out).2.2 (Kd.R_reads' HO.out).2.1 (Kd.C_below HR0.out HB.out) HC0.out HQ).mono ?_
          rintro e w8 ⟨rfl, ⟨nd, rfl⟩⟩
          by_cases c5 : t0 = l0
          · rw [if_pos c5] at H
            obtain rfl := Option.some.inj H
            have c5b : decide (t0 = l0) = true := decide_eq_true c5
            rw [c5b]
            go_wp2_with (first | ((with_reducible refine gate_callee (f := 31) rfl ?_); refine goesL_ (some 31) rfl rfl Tryd.func31 (by kernel_rfl) rfl #[.pointer (some ⟨w.heap.size, 0, none⟩)] rfl (by (try simp only [List.map_toArray, List.map_cons, List.map_nil]); first | done | rfl | (simp only [List.length_drop, List.length_take]; rfl)) ?_))
            have HB2 := Aside0.mk (pw_below_drewN HB.out nd)
            have HI2 := isB_below HI.out (pw_below_drewN (Below.refl w7.heap.size w7) nd)
            refine (Tryd.Builder_String_any_f w.heap.size w.heap.size _ _ HI2 (below_size HB2.out)).mono ?_
            rintro e w8 ⟨rfl, _, hb8⟩
            refine ⟨_, rfl, ?_⟩
            have HB3 := HB2.out.trans hb8
            go_wp2
            go_ret
            exact ⟨rfl, HB3⟩
          · rw [if_neg c5] at H
            obtain rfl := Option.some.inj H
            have c5b : decide (t0 = l0) = false := decide_eq_false c5
            rw [c5b]
            go_wp2
            go_ret
            exact ⟨rfl, pw_below_drewN HB.out _⟩
        · rw [if_neg c4] at H
          cases H
      · rw [if_neg c3] at H
        obtain rfl := Option.some.inj H
        go_wp2
        go_ret
        exact ⟨rfl, HB.out⟩
end Go.Proofs.YtlcgepmacgbciaaDoor.Q
