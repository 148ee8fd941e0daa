import Derived.Test.YtbigcpjlahkggaaKReplicaCommits6
set_option linter.unusedVariables false
set_option linter.unusedSimpArgs false
namespace Go.Proofs.Ytbigcpjlahkggaa.Q
open Go.RowKit Go.Proofs.YtbigcpjlahkggaaW.PrintWords Go.Proofs.YtbigcpjlahkggaaW.PrintLast Go.Proofs.YtbigcpjlahkggaaW.PrintMore
attribute [local go_sem] max2_int min2_int max_two min_two max_three min_three max_four min_four
attribute [local go_sem ↓] isSome_setCell
attribute [local go_sem] string_gtr
set_option linter.unusedVariables false
set_option linter.unusedSimpArgs false
def replica_Message_valid.j0 : Nat → Bool → Int → Int → Int → List (S87) → Int → Option (Bool)
 | 0, _, _, _, _, _, _ => none
 | k + 1, x23, x173000, x173001, x173002, x173003, x173004 => if x23 = true then (some false) else (if x173001 = 0 then (if x173002 = 0 then (if x173001 > 0 then (if x173002 < 1 then (some false) else (if x173002 > x173000 then (some false) else ((replica_ascending.f k x173003 (mx x173002 1) x173000).bind fun t176 => (some t176)))) else ((replica_ascending.f k x173003 (mx x173002 1) x173000).bind fun t177 => (some t177))) else (some false)) else (if x173001 > 0 then (if x173002 < 1 then (some false) else (if x173002 > x173000 then (some false) else ((replica_ascending.f k x173003 (mx x173002 1) x173000).bind fun t178 => (some t178)))) else ((replica_ascending.f k x173003 (mx x173002 1) x173000).bind fun t179 => (some t179))))
def replica_Message_valid.f (k : Nat) (a0_0 : Int) (a0_1 : Int) (a0_2 : Int) (l0_3 : List (S87)) (a0_4 : Int) : Option (Bool) := if a0_0 < 1 then (replica_Message_valid.j0 k true a0_0 a0_1 a0_2 l0_3 a0_4) else ((replica_number.f a0_0).bind fun t173 => (if t173 = true then ((replica_number.f a0_1).bind fun t174 => (if t174 = true then ((replica_number.f a0_4).bind fun t175 => (replica_Message_valid.j0 k (!t175) a0_0 a0_1 a0_2 l0_3 a0_4)) else (replica_Message_valid.j0 k true a0_0 a0_1 a0_2 l0_3 a0_4))) else (replica_Message_valid.j0 k true a0_0 a0_1 a0_2 l0_3 a0_4)))
set_option maxHeartbeats 8000000 in
set_option maxRecDepth 100000 in
theorem replica_Message_valid.calls (k : Nat) (a0_0 : Int) (a0_1 : Int) (a0_2 : Int) (A0_3 : Option Addr) (c0_3 : Nat) (l0_3 : List (S87)) (a0_4 : Int) (r : Bool) (w : World) (hr0_3 : Kd.C k87 w A0_3 l0_3.length l0_3) (hc0_3 : l0_3.length ≤ c0_3) (h : replica_Message_valid.f k a0_0 a0_1 a0_2 l0_3 a0_4 = some r) :
  Calls Try.prog 36 #[.agg #[.int .i64 a0_0, .int .i64 a0_1, .int .i64 a0_2, .slice A0_3 l0_3.length c0_3, .int .i64 a0_4]] w fun e w' => e = .returned (.bool r) ∧ Below w.heap.size w w' := by
 have hu30 := Try.underlying30
 have HR0_3 := am_ hr0_3
 have HC0_3 := am_ hc0_3
 clear hr0_3 hc0_3
 have HB := am_ (Below.refl w.heap.size w)
 have H : (if a0_0 < 1 then (replica_Message_valid.j0 k true a0_0 a0_1 a0_2 l0_3 a0_4) else ((replica_number.f a0_0).bind fun t173 => (if t173 = true then ((replica_number.f a0_1).bind fun t174 => (if t174 = true then ((replica_number.f a0_4).bind fun t175 => (replica_Message_valid.j0 k (!t175) a0_0 a0_1 a0_2 l0_3 a0_4)) else (replica_Message_valid.j0 k true a0_0 a0_1 a0_2 l0_3 a0_4))) else (replica_Message_valid.j0 k true a0_0 a0_1 a0_2 l0_3 a0_4)))) = some r := h
 clear h
 have HC2 := am_ H
 clear H
 go_enter Try.func36, Try.ntmps36
 go_upto_region 1 with (first | ((with_reducible refine gate_dst (N := 1) rfl ?_); refine box_event ?hg (N := 1) ?hd (cs := #[.int .i64 a0_0, .int .i64 a0_1, .int .i64 a0_2, .slice A0_3 l0_3.length c0_3, .int .i64 a0_4]) (t := 30) ?hr ?_; (case hd => rfl); (case hg => rfl); (case hr => first | (go_simp; done) | (go_simp; rfl)); intro gb172 hg w3 hbox hb; have n0_ := am_ (sp_ (pb0_ HB.out) hb); have n1_ := am_ (hbox); have n2_ := am_ ((by rw [hg]; exact (bz_ (pb0_ HB.out)) : w.heap.size ≤ gb172)); have n3_ := am_ ((by rw [hg]; exact (bz_ (pb0_ HB.out)) : w.heap.size ≤ gb172)); clear HB; have HB := n0_; have BK172 := n1_; have GW172 := n2_; have GE172 := n3_; clear n0_ n1_ n2_ n3_; clear hb hbox hg))
 (try simp only [Act.put, lt1_, lt2_, lt3_])
 go_cut [23] (fun v23 wc => ∃ (kq : Nat) (x23_1 : Bool), v23 = .bool x23_1 ∧ Aside0 (replica_Message_valid.j0 kq x23_1 a0_0 a0_1 a0_2 l0_3 a0_4 = some r) ∧ Aside0 (kq ≤ k) ∧ Aside0 (wc.heap[gb172]? = some (.cells #[.int .i64 a0_0, .int .i64 a0_1, .int .i64 a0_2, (.slice A0_3 l0_3.length c0_3), .int .i64 a0_4] 30 (0, 0))) ∧ Aside0 (Below w.heap.size w wc))
 case first =>
  have H := HC2.out
  clear HC2
  by_cases c4 : a0_0 < 1
  ·
   rw [if_pos c4] at H
   have c4b0 : decide (a0_0 < 1) = true := de_ c4
   clear c4
   (first | rw [c4b0] | (simp only [i64_w, i32_w]; rw [c4b0]) | rw [c4b2] | skip)
   have H' := am_ H
   clear H
   have hcz5_0 : w3.cell? ⟨gb172, 0, none⟩ = some (.int .i64 a0_0) := (bc_ BK172.out 0).trans rfl
   have hcz5_1 : w3.cell? ⟨gb172, 1, none⟩ = some (.int .i64 a0_1) := (bc_ BK172.out 1).trans rfl
   have hcz5_2 : w3.cell? ⟨gb172, 2, none⟩ = some (.int .i64 a0_2) := (bc_ BK172.out 2).trans rfl
   have hcz5_3 : w3.cell? ⟨gb172, 3, none⟩ = some (.slice A0_3 l0_3.length c0_3) := (bc_ BK172.out 3).trans rfl
   have hcz5_4 : w3.cell? ⟨gb172, 4, none⟩ = some (.int .i64 a0_4) := (bc_ BK172.out 4).trans rfl
   have hfz5_0 := bf_ BK172.out 0
   have hfz5_1 := bf_ BK172.out 1
   have hfz5_2 := bf_ BK172.out 2
   have hfz5_3 := bf_ BK172.out 3
   have hfz5_4 := bf_ BK172.out 4
   go_wp2
   go_meet
   case rel => exact ⟨_, (true), (by first | rfl | (simp; done) | (simp [*]; done)), H', ⟨by first | omega | exact Nat.le_refl _⟩, ⟨by (with_reducible repeat (first | refine bn_ ?_ _ | refine bd_ ?_ | refine ba_ ?_ _)); exact BK172.out⟩, ⟨pb1_ HB.out GE172.out⟩⟩
  ·
   rw [if_neg c4] at H
   have c4b0 : decide (a0_0 < 1) = false := df_ c4
   clear c4
   (first | rw [c4b0] | (simp only [i64_w, i32_w]; rw [c4b0]) | rw [c4b2] | skip)
   replace H := Option.bind_eq_some_iff.mp H
   obtain ⟨t173, A60, H⟩ := H
   replace H : (if t173 = true then ((replica_number.f a0_1).bind fun t174 => (if t174 = true then ((replica_number.f a0_4).bind fun t175 => (replica_Message_valid.j0 k (!t175) a0_0 a0_1 a0_2 l0_3 a0_4)) else (replica_Message_valid.j0 k true a0_0 a0_1 a0_2 l0_3 a0_4))) else (replica_Message_valid.j0 k true a0_0 a0_1 a0_2 l0_3 a0_4)) = some r := H
   have A6 := am_ A60
   clear A60
   by_cases c7 : t173 = true
   ·
    subst c7
    have H1 : ((replica_number.f a0_1).bind fun t174 => (if t174 = true then ((replica_number.f a0_4).bind fun t175 => (replica_Message_valid.j0 k (!t175) a0_0 a0_1 a0_2 l0_3 a0_4)) else (replica_Message_valid.j0 k true a0_0 a0_1 a0_2 l0_3 a0_4))) = some r := by rw [if_pos rfl] at H; exact H
    clear H
    have H := H1
    clear H1
    replace H := Option.bind_eq_some_iff.mp H
    obtain ⟨t174, A80, H⟩ := H
    replace H : (if t174 = true then ((replica_number.f a0_4).bind fun t175 => (replica_Message_valid.j0 k (!t175) a0_0 a0_1 a0_2 l0_3 a0_4)) else (replica_Message_valid.j0 k true a0_0 a0_1 a0_2 l0_3 a0_4)) = some r := H
    have A8 := am_ A80
    clear A80
    by_cases c9 : t174 = true
    ·
     subst c9
     have H1 : ((replica_number.f a0_4).bind fun t175 => (replica_Message_valid.j0 k (!t175) a0_0 a0_1 a0_2 l0_3 a0_4)) = some r := by rw [if_pos rfl] at H; exact H
     clear H
     have H := H1
     clear H1
     replace H := Option.bind_eq_some_iff.mp H
     obtain ⟨t175, A100, H⟩ := H
     replace H : (replica_Message_valid.j0 k (!t175) a0_0 a0_1 a0_2 l0_3 a0_4) = some r := H
     have A10 := am_ A100
     clear A100
     have H' := am_ H
     clear H
     have hcz11_0 : w3.cell? ⟨gb172, 0, none⟩ = some (.int .i64 a0_0) := (bc_ BK172.out 0).trans rfl
     have hcz11_1 : w3.cell? ⟨gb172, 1, none⟩ = some (.int .i64 a0_1) := (bc_ BK172.out 1).trans rfl
     have hcz11_2 : w3.cell? ⟨gb172, 2, none⟩ = some (.int .i64 a0_2) := (bc_ BK172.out 2).trans rfl
     have hcz11_3 : w3.cell? ⟨gb172, 3, none⟩ = some (.slice A0_3 l0_3.length c0_3) := (bc_ BK172.out 3).trans rfl
     have hcz11_4 : w3.cell? ⟨gb172, 4, none⟩ = some (.int .i64 a0_4) := (bc_ BK172.out 4).trans rfl
     have hfz11_0 := bf_ BK172.out 0
     have hfz11_1 := bf_ BK172.out 1
     have hfz11_2 := bf_ BK172.out 2
     have hfz11_3 := bf_ BK172.out 3
     have hfz11_4 := bf_ BK172.out 4
     go_wp2_with (first | (go_at_call 48; (with_reducible refine (replica_number.calls a0_0 true _ A6.out).mono ?_); rintro e w' ⟨rfl, ⟨nd, rfl⟩⟩) | (go_at_call 48; (with_reducible refine (replica_number.calls a0_1 true _ A8.out).mono ?_); rintro e w' ⟨rfl, ⟨nd, rfl⟩⟩) | (go_at_call 48; (with_reducible refine (replica_number.calls a0_4 t175 _ A10.out).mono ?_); rintro e w' ⟨rfl, ⟨nd, rfl⟩⟩))
     go_meet
     case rel => exact ⟨_, (!t175), (by first | rfl | (simp; done) | (simp [*]; done)), H', ⟨by first | omega | exact Nat.le_refl _⟩, ⟨by (with_reducible repeat (first | refine bn_ ?_ _ | refine bd_ ?_ | refine ba_ ?_ _)); exact BK172.out⟩, ⟨pb1_ HB.out GE172.out⟩⟩
    ·
     replace c9 := Bool.eq_false_iff.mpr c9
     subst c9
     have H1 : (replica_Message_valid.j0 k true a0_0 a0_1 a0_2 l0_3 a0_4) = some r := by rw [if_neg (show ¬ (false = true) by decide)] at H; exact H
     clear H
     have H := H1
     clear H1
     have H' := am_ H
     clear H
     have hcz12_0 : w3.cell? ⟨gb172, 0, none⟩ = some (.int .i64 a0_0) := (bc_ BK172.out 0).trans rfl
     have hcz12_1 : w3.cell? ⟨gb172, 1, none⟩ = some (.int .i64 a0_1) := (bc_ BK172.out 1).trans rfl
     have hcz12_2 : w3.cell? ⟨gb172, 2, none⟩ = some (.int .i64 a0_2) := (bc_ BK172.out 2).trans rfl
     have hcz12_3 : w3.cell? ⟨gb172, 3, none⟩ = some (.slice A0_3 l0_3.length c0_3) := (bc_ BK172.out 3).trans rfl
     have hcz12_4 : w3.cell? ⟨gb172, 4, none⟩ = some (.int .i64 a0_4) := (bc_ BK172.out 4).trans rfl
     have hfz12_0 := bf_ BK172.out 0
     have hfz12_1 := bf_ BK172.out 1
     have hfz12_2 := bf_ BK172.out 2
     have hfz12_3 := bf_ BK172.out 3
     have hfz12_4 := bf_ BK172.out 4
     go_wp2_with (first | (go_at_call 48; (with_reducible refine (replica_number.calls a0_0 true _ A6.out).mono ?_); rintro e w' ⟨rfl, ⟨nd, rfl⟩⟩) | (go_at_call 48; (with_reducible refine (replica_number.calls a0_1 false _ A8.out).mono ?_); rintro e w' ⟨rfl, ⟨nd, rfl⟩⟩))
     go_meet
     case rel => exact ⟨_, (true), (by first | rfl | (simp; done) | (simp [*]; done)), H', ⟨by first | omega | exact Nat.le_refl _⟩, ⟨by (with_reducible repeat (first | refine bn_ ?_ _ | refine bd_ ?_ | refine ba_ ?_ _)); exact BK172.out⟩, ⟨pb1_ HB.out GE172.out⟩⟩
   ·
    replace c7 := Bool.eq_false_iff.mpr c7
    subst c7
    have H1 : (replica_Message_valid.j0 k true a0_0 a0_1 a0_2 l0_3 a0_4) = some r := by rw [if_neg (show ¬ (false = true) by decide)] at H; exact H
    clear H
    have H := H1
    clear H1
    have H' := am_ H
    clear H
    have hcz13_0 : w3.cell? ⟨gb172, 0, none⟩ = some (.int .i64 a0_0) := (bc_ BK172.out 0).trans rfl
    have hcz13_1 : w3.cell? ⟨gb172, 1, none⟩ = some (.int .i64 a0_1) := (bc_ BK172.out 1).trans rfl
    have hcz13_2 : w3.cell? ⟨gb172, 2, none⟩ = some (.int .i64 a0_2) := (bc_ BK172.out 2).trans rfl
    have hcz13_3 : w3.cell? ⟨gb172, 3, none⟩ = some (.slice A0_3 l0_3.length c0_3) := (bc_ BK172.out 3).trans rfl
    have hcz13_4 : w3.cell? ⟨gb172, 4, none⟩ = some (.int .i64 a0_4) := (bc_ BK172.out 4).trans rfl
    have hfz13_0 := bf_ BK172.out 0
    have hfz13_1 := bf_ BK172.out 1
    have hfz13_2 := bf_ BK172.out 2
    have hfz13_3 := bf_ BK172.out 3
    have hfz13_4 := bf_ BK172.out 4
    go_wp2_with (first | (go_at_call 48; (with_reducible refine (replica_number.calls a0_0 false _ A6.out).mono ?_); rintro e w' ⟨rfl, ⟨nd, rfl⟩⟩))
    go_meet
    case rel => exact ⟨_, (true), (by first | rfl | (simp; done) | (simp [*]; done)), H', ⟨by first | omega | exact Nat.le_refl _⟩, ⟨by (with_reducible repeat (first | refine bn_ ?_ _ | refine bd_ ?_ | refine ba_ ?_ _)); exact BK172.out⟩, ⟨pb1_ HB.out GE172.out⟩⟩
 case rest =>
  clear HC2
  try clear p2
  try clear c3
  try clear c4
  try clear c4b0
  try clear c4b2
  try clear c7
  try clear c9
  try clear hcz11_0
  try clear hcz11_1
  try clear hcz11_2
  try clear hcz11_3
  try clear hcz11_4
  try clear hcz12_0
  try clear hcz12_1
  try clear hcz12_2
  try clear hcz12_3
  try clear hcz12_4
  try clear hcz13_0
  try clear hcz13_1
  try clear hcz13_2
  try clear hcz13_3
  try clear hcz13_4
  try clear hcz5_0
  try clear hcz5_1
  try clear hcz5_2
  try clear hcz5_3
  try clear hcz5_4
  try clear hfz11_0
  try clear hfz11_1
  try clear hfz11_2
  try clear hfz11_3
  try clear hfz11_4
  try clear hfz12_0
  try clear hfz12_1
  try clear hfz12_2
  try clear hfz12_3
  try clear hfz12_4
  try clear hfz13_0
  try clear hfz13_1
  try clear hfz13_2
  try clear hfz13_3
  try clear hfz13_4
  try clear hfz5_0
  try clear hfz5_1
  try clear hfz5_2
  try clear hfz5_3
  try clear hfz5_4
  obtain ⟨kq, x23_1, rfl, HA, HJ1, BK172, HB⟩ := hcut
  cases kq with
  | zero => exact absurd HA.out (by simp [replica_Message_valid.j0])
  | succ kj1 =>
   have H := HA.out
   clear HA
   simp only [replica_Message_valid.j0] at H
   by_cases c14 : x23_1 = true
   ·
    subst c14
    have H1 : (some false) = some r := by rw [if_pos rfl] at H; exact H
    clear H
    have H := H1
    clear H1
    obtain rfl := si_ H
    go_wp2
    go_ret
    exact ⟨by first | rfl | (simp [errW_none, errW_some] <;> rfl) | (simp [*, errW_none, errW_some] <;> rfl), pb1_ HB.out GE172.out⟩
   ·
    replace c14 := Bool.eq_false_iff.mpr c14
    subst c14
    have H1 : (if a0_1 = 0 then (if a0_2 = 0 then (if a0_1 > 0 then (if a0_2 < 1 then (some false) else (if a0_2 > a0_0 then (some false) else ((replica_ascending.f kj1 l0_3 (mx a0_2 1) a0_0).bind fun t176 => (some t176)))) else ((replica_ascending.f kj1 l0_3 (mx a0_2 1) a0_0).bind fun t177 => (some t177))) else (some false)) else (if a0_1 > 0 then (if a0_2 < 1 then (some false) else (if a0_2 > a0_0 then (some false) else ((replica_ascending.f kj1 l0_3 (mx a0_2 1) a0_0).bind fun t178 => (some t178)))) else ((replica_ascending.f kj1 l0_3 (mx a0_2 1) a0_0).bind fun t179 => (some t179)))) = some r := by rw [if_neg (show ¬ (false = true) by decide)] at H; exact H
    clear H
    have H := H1
    clear H1
    by_cases c15 : a0_1 = 0
    ·
     rw [if_pos c15] at H
     have c15b0 : (a0_1 == 0) = true := beq_iff_eq.mpr c15
     have c15b1 : (a0_1 != 0) = false := bne_eq_false_iff_eq.mpr c15
     clear c15
     by_cases c16 : a0_2 = 0
     ·
      rw [if_pos c16] at H
      have c16b0 : (a0_2 == 0) = true := beq_iff_eq.mpr c16
      have c16b1 : (a0_2 != 0) = false := bne_eq_false_iff_eq.mpr c16
      clear c16
      by_cases c17 : a0_1 > 0
      ·
       rw [if_pos c17] at H
       have c17b0 : decide (0 < a0_1) = true := de_ c17
       clear c17
       by_cases c18 : a0_2 < 1
       ·
        rw [if_pos c18] at H
        have c18b0 : decide (a0_2 < 1) = true := de_ c18
        clear c18
        obtain rfl := si_ H
        have hcz19_0 : wc.cell? ⟨gb172, 0, none⟩ = some (.int .i64 a0_0) := (bc_ BK172.out 0).trans rfl
        have hcz19_1 : wc.cell? ⟨gb172, 1, none⟩ = some (.int .i64 a0_1) := (bc_ BK172.out 1).trans rfl
        have hcz19_2 : wc.cell? ⟨gb172, 2, none⟩ = some (.int .i64 a0_2) := (bc_ BK172.out 2).trans rfl
        have hcz19_3 : wc.cell? ⟨gb172, 3, none⟩ = some (.slice A0_3 l0_3.length c0_3) := (bc_ BK172.out 3).trans rfl
        have hcz19_4 : wc.cell? ⟨gb172, 4, none⟩ = some (.int .i64 a0_4) := (bc_ BK172.out 4).trans rfl
        have hfz19_0 := bf_ BK172.out 0
        have hfz19_1 := bf_ BK172.out 1
        have hfz19_2 := bf_ BK172.out 2
        have hfz19_3 := bf_ BK172.out 3
        have hfz19_4 := bf_ BK172.out 4
        go_wp2
        go_ret
        exact ⟨by first | rfl | (simp [errW_none, errW_some] <;> rfl) | (simp [*, errW_none, errW_some] <;> rfl), pb1_ HB.out GE172.out⟩
       ·
        rw [if_neg c18] at H
        have c18b0 : decide (a0_2 < 1) = false := df_ c18
        clear c18
        by_cases c20 : a0_2 > a0_0
        ·
         rw [if_pos c20] at H
         have c20b0 : decide (a0_0 < a0_2) = true := de_ c20
         clear c20
         obtain rfl := si_ H
         have hcz21_0 : wc.cell? ⟨gb172, 0, none⟩ = some (.int .i64 a0_0) := (bc_ BK172.out 0).trans rfl
         have hcz21_1 : wc.cell? ⟨gb172, 1, none⟩ = some (.int .i64 a0_1) := (bc_ BK172.out 1).trans rfl
         have hcz21_2 : wc.cell? ⟨gb172, 2, none⟩ = some (.int .i64 a0_2) := (bc_ BK172.out 2).trans rfl
         have hcz21_3 : wc.cell? ⟨gb172, 3, none⟩ = some (.slice A0_3 l0_3.length c0_3) := (bc_ BK172.out 3).trans rfl
         have hcz21_4 : wc.cell? ⟨gb172, 4, none⟩ = some (.int .i64 a0_4) := (bc_ BK172.out 4).trans rfl
         have hfz21_0 := bf_ BK172.out 0
         have hfz21_1 := bf_ BK172.out 1
         have hfz21_2 := bf_ BK172.out 2
         have hfz21_3 := bf_ BK172.out 3
         have hfz21_4 := bf_ BK172.out 4
         go_wp2
         go_ret
         exact ⟨by first | rfl | (simp [errW_none, errW_some] <;> rfl) | (simp [*, errW_none, errW_some] <;> rfl), pb1_ HB.out GE172.out⟩
        ·
         rw [if_neg c20] at H
         have c20b0 : decide (a0_0 < a0_2) = false := df_ c20
         clear c20
         obtain ⟨ji22, hji22⟩ : ∃ j_ : Int, (mx a0_2 1) = j_ := ⟨_, rfl⟩
         replace H : ((replica_ascending.f kj1 l0_3 (ji22) a0_0).bind fun t176 => (some t176)) = some r := by first | (rw [hji22] at H; exact H) | (simp only [hji22] at H ⊢; exact H)
         have hji22_ : (if a0_2 < 1 then 1 else a0_2) = ji22 := hji22
         replace H := Option.bind_eq_some_iff.mp H
         obtain ⟨t176, A230, H⟩ := H
         replace H : (some t176) = some r := H
         have A23 := am_ A230
         clear A230
         obtain rfl := si_ H
         have hcz24_0 : wc.cell? ⟨gb172, 0, none⟩ = some (.int .i64 a0_0) := (bc_ BK172.out 0).trans rfl
         have hcz24_1 : wc.cell? ⟨gb172, 1, none⟩ = some (.int .i64 a0_1) := (bc_ BK172.out 1).trans rfl
         have hcz24_2 : wc.cell? ⟨gb172, 2, none⟩ = some (.int .i64 a0_2) := (bc_ BK172.out 2).trans rfl
         have hcz24_3 : wc.cell? ⟨gb172, 3, none⟩ = some (.slice A0_3 l0_3.length c0_3) := (bc_ BK172.out 3).trans rfl
         have hcz24_4 : wc.cell? ⟨gb172, 4, none⟩ = some (.int .i64 a0_4) := (bc_ BK172.out 4).trans rfl
         have hfz24_0 := bf_ BK172.out 0
         have hfz24_1 := bf_ BK172.out 1
         have hfz24_2 := bf_ BK172.out 2
         have hfz24_3 := bf_ BK172.out 3
         have hfz24_4 := bf_ BK172.out 4
         go_wp2_with (first | ((with_reducible refine gate_callee (f := 49) rfl ?_); refine goesL_ (some 56) rfl rfl Try.func49 (by kernel_rfl) rfl #[.slice A0_3 l0_3.length c0_3, .int .i64 ji22, .int .i64 a0_0] rfl (by (try simp only [List.map_toArray, List.map_cons, List.map_nil]); first | done | (simp only [hji22]; rfl) | rfl | (simp only [List.length_drop, List.length_take]; rfl)) ?_; (with_reducible refine (replica_ascending.calls kj1 _ _ l0_3 ji22 a0_0 t176 _ ?side1 ?side2 A23.out).mono ?_); (case side1 => repeat (first | exact (Kd.C_below HR0_3.out HB.out) | (with_reducible refine Kd.C_alloc ?_ _) | (with_reducible refine Kd.C_drewN ?_ _) | (with_reducible refine Kd.C_drew ?_))); (case side2 => exact HC0_3.out); rintro e w25 ⟨rfl, hb⟩; refine ⟨_, rfl, ?_⟩; have n0_ := am_ (bw_ (g := gb172) (o := .cells #[.int .i64 a0_0, .int .i64 a0_1, .int .i64 a0_2, .slice A0_3 l0_3.length c0_3, .int .i64 a0_4] 30 (0, 0)) (pk_ BK172.out) hb); have n1_ := am_ (sp_ (pb1_ HB.out GE172.out) hb); clear BK172; clear HB; have BK172 := n0_; have HB := n1_; clear n0_ n1_; (try clear hb); (try clear hb2); (try clear hk); (try clear hi)))
         go_ret
         exact ⟨by first | rfl | (simp [errW_none, errW_some] <;> rfl) | (simp only [← hji22]; first | rfl | (simp [errW_none, errW_some] <;> rfl)) | (simp [*, errW_none, errW_some] <;> rfl), pb1_ HB.out GE172.out⟩
      ·
       rw [if_neg c17] at H
       have c17b0 : decide (0 < a0_1) = false := df_ c17
       clear c17
       obtain ⟨ji26, hji26⟩ : ∃ j_ : Int, (mx a0_2 1) = j_ := ⟨_, rfl⟩
       replace H : ((replica_ascending.f kj1 l0_3 (ji26) a0_0).bind fun t177 => (some t177)) = some r := by first | (rw [hji26] at H; exact H) | (simp only [hji26] at H ⊢; exact H)
       have hji26_ : (if a0_2 < 1 then 1 else a0_2) = ji26 := hji26
       replace H := Option.bind_eq_some_iff.mp H
       obtain ⟨t177, A270, H⟩ := H
       replace H : (some t177) = some r := H
       have A27 := am_ A270
       clear A270
       obtain rfl := si_ H
       have hcz28_0 : wc.cell? ⟨gb172, 0, none⟩ = some (.int .i64 a0_0) := (bc_ BK172.out 0).trans rfl
       have hcz28_1 : wc.cell? ⟨gb172, 1, none⟩ = some (.int .i64 a0_1) := (bc_ BK172.out 1).trans rfl
       have hcz28_2 : wc.cell? ⟨gb172, 2, none⟩ = some (.int .i64 a0_2) := (bc_ BK172.out 2).trans rfl
       have hcz28_3 : wc.cell? ⟨gb172, 3, none⟩ = some (.slice A0_3 l0_3.length c0_3) := (bc_ BK172.out 3).trans rfl
       have hcz28_4 : wc.cell? ⟨gb172, 4, none⟩ = some (.int .i64 a0_4) := (bc_ BK172.out 4).trans rfl
       have hfz28_0 := bf_ BK172.out 0
       have hfz28_1 := bf_ BK172.out 1
       have hfz28_2 := bf_ BK172.out 2
       have hfz28_3 := bf_ BK172.out 3
       have hfz28_4 := bf_ BK172.out 4
       go_wp2_with (first | ((with_reducible refine gate_callee (f := 49) rfl ?_); refine goesL_ (some 56) rfl rfl Try.func49 (by kernel_rfl) rfl #[.slice A0_3 l0_3.length c0_3, .int .i64 ji26, .int .i64 a0_0] rfl (by (try simp only [List.map_toArray, List.map_cons, List.map_nil]); first | done | (simp only [hji26]; rfl) | rfl | (simp only [List.length_drop, List.length_take]; rfl)) ?_; (with_reducible refine (replica_ascending.calls kj1 _ _ l0_3 ji26 a0_0 t177 _ ?side1 ?side2 A27.out).mono ?_); (case side1 => repeat (first | exact (Kd.C_below HR0_3.out HB.out) | (with_reducible refine Kd.C_alloc ?_ _) | (with_reducible refine Kd.C_drewN ?_ _) | (with_reducible refine Kd.C_drew ?_))); (case side2 => exact HC0_3.out); rintro e w29 ⟨rfl, hb⟩; refine ⟨_, rfl, ?_⟩; have n0_ := am_ (bw_ (g := gb172) (o := .cells #[.int .i64 a0_0, .int .i64 a0_1, .int .i64 a0_2, .slice A0_3 l0_3.length c0_3, .int .i64 a0_4] 30 (0, 0)) (pk_ BK172.out) hb); have n1_ := am_ (sp_ (pb1_ HB.out GE172.out) hb); clear BK172; clear HB; have BK172 := n0_; have HB := n1_; clear n0_ n1_; (try clear hb); (try clear hb2); (try clear hk); (try clear hi)))
       go_ret
       exact ⟨by first | rfl | (simp [errW_none, errW_some] <;> rfl) | (simp only [← hji26]; first | rfl | (simp [errW_none, errW_some] <;> rfl)) | (simp [*, errW_none, errW_some] <;> rfl), pb1_ HB.out GE172.out⟩
     ·
      rw [if_neg c16] at H
      have c16b0 : (a0_2 == 0) = false := beq_eq_false_iff_ne.mpr c16
      have c16b1 : (a0_2 != 0) = true := bne_iff_ne.mpr c16
      obtain rfl := si_ H
      have hcz30_0 : wc.cell? ⟨gb172, 0, none⟩ = some (.int .i64 a0_0) := (bc_ BK172.out 0).trans rfl
      have hcz30_1 : wc.cell? ⟨gb172, 1, none⟩ = some (.int .i64 a0_1) := (bc_ BK172.out 1).trans rfl
      have hcz30_2 : wc.cell? ⟨gb172, 2, none⟩ = some (.int .i64 a0_2) := (bc_ BK172.out 2).trans rfl
      have hcz30_3 : wc.cell? ⟨gb172, 3, none⟩ = some (.slice A0_3 l0_3.length c0_3) := (bc_ BK172.out 3).trans rfl
      have hcz30_4 : wc.cell? ⟨gb172, 4, none⟩ = some (.int .i64 a0_4) := (bc_ BK172.out 4).trans rfl
      have hfz30_0 := bf_ BK172.out 0
      have hfz30_1 := bf_ BK172.out 1
      have hfz30_2 := bf_ BK172.out 2
      have hfz30_3 := bf_ BK172.out 3
      have hfz30_4 := bf_ BK172.out 4
      go_wp2
      go_ret
      exact ⟨by first | rfl | (simp [errW_none, errW_some] <;> rfl) | (simp [*, errW_none, errW_some] <;> rfl), pb1_ HB.out GE172.out⟩
    ·
     rw [if_neg c15] at H
     have c15b0 : (a0_1 == 0) = false := beq_eq_false_iff_ne.mpr c15
     have c15b1 : (a0_1 != 0) = true := bne_iff_ne.mpr c15
     by_cases c31 : a0_1 > 0
     ·
      rw [if_pos c31] at H
      have c31b0 : decide (0 < a0_1) = true := de_ c31
      clear c31
      by_cases c32 : a0_2 < 1
      ·
       rw [if_pos c32] at H
       have c32b0 : decide (a0_2 < 1) = true := de_ c32
       clear c32
       obtain rfl := si_ H
       have hcz33_0 : wc.cell? ⟨gb172, 0, none⟩ = some (.int .i64 a0_0) := (bc_ BK172.out 0).trans rfl
       have hcz33_1 : wc.cell? ⟨gb172, 1, none⟩ = some (.int .i64 a0_1) := (bc_ BK172.out 1).trans rfl
       have hcz33_2 : wc.cell? ⟨gb172, 2, none⟩ = some (.int .i64 a0_2) := (bc_ BK172.out 2).trans rfl
       have hcz33_3 : wc.cell? ⟨gb172, 3, none⟩ = some (.slice A0_3 l0_3.length c0_3) := (bc_ BK172.out 3).trans rfl
       have hcz33_4 : wc.cell? ⟨gb172, 4, none⟩ = some (.int .i64 a0_4) := (bc_ BK172.out 4).trans rfl
       have hfz33_0 := bf_ BK172.out 0
       have hfz33_1 := bf_ BK172.out 1
       have hfz33_2 := bf_ BK172.out 2
       have hfz33_3 := bf_ BK172.out 3
       have hfz33_4 := bf_ BK172.out 4
       go_wp2
       go_ret
       exact ⟨by first | rfl | (simp [errW_none, errW_some] <;> rfl) | (simp [*, errW_none, errW_some] <;> rfl), pb1_ HB.out GE172.out⟩
      ·
       rw [if_neg c32] at H
       have c32b0 : decide (a0_2 < 1) = false := df_ c32
       clear c32
       by_cases c34 : a0_2 > a0_0
       ·
        rw [if_pos c34] at H
        have c34b0 : decide (a0_0 < a0_2) = true := de_ c34
        clear c34
        obtain rfl := si_ H
        have hcz35_0 : wc.cell? ⟨gb172, 0, none⟩ = some (.int .i64 a0_0) := (bc_ BK172.out 0).trans rfl
        have hcz35_1 : wc.cell? ⟨gb172, 1, none⟩ = some (.int .i64 a0_1) := (bc_ BK172.out 1).trans rfl
        have hcz35_2 : wc.cell? ⟨gb172, 2, none⟩ = some (.int .i64 a0_2) := (bc_ BK172.out 2).trans rfl
        have hcz35_3 : wc.cell? ⟨gb172, 3, none⟩ = some (.slice A0_3 l0_3.length c0_3) := (bc_ BK172.out 3).trans rfl
        have hcz35_4 : wc.cell? ⟨gb172, 4, none⟩ = some (.int .i64 a0_4) := (bc_ BK172.out 4).trans rfl
        have hfz35_0 := bf_ BK172.out 0
        have hfz35_1 := bf_ BK172.out 1
        have hfz35_2 := bf_ BK172.out 2
        have hfz35_3 := bf_ BK172.out 3
        have hfz35_4 := bf_ BK172.out 4
        go_wp2
        go_ret
        exact ⟨by first | rfl | (simp [errW_none, errW_some] <;> rfl) | (simp [*, errW_none, errW_some] <;> rfl), pb1_ HB.out GE172.out⟩
       ·
        rw [if_neg c34] at H
        have c34b0 : decide (a0_0 < a0_2) = false := df_ c34
        clear c34
        obtain ⟨ji36, hji36⟩ : ∃ j_ : Int, (mx a0_2 1) = j_ := ⟨_, rfl⟩
        replace H : ((replica_ascending.f kj1 l0_3 (ji36) a0_0).bind fun t178 => (some t178)) = some r := by first | (rw [hji36] at H; exact H) | (simp only [hji36] at H ⊢; exact H)
        have hji36_ : (if a0_2 < 1 then 1 else a0_2) = ji36 := hji36
        replace H := Option.bind_eq_some_iff.mp H
        obtain ⟨t178, A370, H⟩ := H
        replace H : (some t178) = some r := H
        have A37 := am_ A370
        clear A370
        obtain rfl := si_ H
        have hcz38_0 : wc.cell? ⟨gb172, 0, none⟩ = some (.int .i64 a0_0) := (bc_ BK172.out 0).trans rfl
        have hcz38_1 : wc.cell? ⟨gb172, 1, none⟩ = some (.int .i64 a0_1) := (bc_ BK172.out 1).trans rfl
        have hcz38_2 : wc.cell? ⟨gb172, 2, none⟩ = some (.int .i64 a0_2) := (bc_ BK172.out 2).trans rfl
        have hcz38_3 : wc.cell? ⟨gb172, 3, none⟩ = some (.slice A0_3 l0_3.length c0_3) := (bc_ BK172.out 3).trans rfl
        have hcz38_4 : wc.cell? ⟨gb172, 4, none⟩ = some (.int .i64 a0_4) := (bc_ BK172.out 4).trans rfl
        have hfz38_0 := bf_ BK172.out 0
        have hfz38_1 := bf_ BK172.out 1
        have hfz38_2 := bf_ BK172.out 2
        have hfz38_3 := bf_ BK172.out 3
        have hfz38_4 := bf_ BK172.out 4
        go_wp2_with (first | ((with_reducible refine gate_callee (f := 49) rfl ?_); refine goesL_ (some 56) rfl rfl Try.func49 (by kernel_rfl) rfl #[.slice A0_3 l0_3.length c0_3, .int .i64 ji36, .int .i64 a0_0] rfl (by (try simp only [List.map_toArray, List.map_cons, List.map_nil]); first | done | (simp only [hji36]; rfl) | rfl | (simp only [List.length_drop, List.length_take]; rfl)) ?_; (with_reducible refine (replica_ascending.calls kj1 _ _ l0_3 ji36 a0_0 t178 _ ?side1 ?side2 A37.out).mono ?_); (case side1 => repeat (first | exact (Kd.C_below HR0_3.out HB.out) | (with_reducible refine Kd.C_alloc ?_ _) | (with_reducible refine Kd.C_drewN ?_ _) | (with_reducible refine Kd.C_drew ?_))); (case side2 => exact HC0_3.out); rintro e w39 ⟨rfl, hb⟩; refine ⟨_, rfl, ?_⟩; have n0_ := am_ (bw_ (g := gb172) (o := .cells #[.int .i64 a0_0, .int .i64 a0_1, .int .i64 a0_2, .slice A0_3 l0_3.length c0_3, .int .i64 a0_4] 30 (0, 0)) (pk_ BK172.out) hb); have n1_ := am_ (sp_ (pb1_ HB.out GE172.out) hb); clear BK172; clear HB; have BK172 := n0_; have HB := n1_; clear n0_ n1_; (try clear hb); (try clear hb2); (try clear hk); (try clear hi)))
        go_ret
        exact ⟨by first | rfl | (simp [errW_none, errW_some] <;> rfl) | (simp only [← hji36]; first | rfl | (simp [errW_none, errW_some] <;> rfl)) | (simp [*, errW_none, errW_some] <;> rfl), pb1_ HB.out GE172.out⟩
     ·
      rw [if_neg c31] at H
      have c31b0 : decide (0 < a0_1) = false := df_ c31
      clear c31
      obtain ⟨ji40, hji40⟩ : ∃ j_ : Int, (mx a0_2 1) = j_ := ⟨_, rfl⟩
      replace H : ((replica_ascending.f kj1 l0_3 (ji40) a0_0).bind fun t179 => (some t179)) = some r := by first | (rw [hji40] at H; exact H) | (simp only [hji40] at H ⊢; exact H)
      have hji40_ : (if a0_2 < 1 then 1 else a0_2) = ji40 := hji40
      replace H := Option.bind_eq_some_iff.mp H
      obtain ⟨t179, A410, H⟩ := H
      replace H : (some t179) = some r := H
      have A41 := am_ A410
      clear A410
      obtain rfl := si_ H
      have hcz42_0 : wc.cell? ⟨gb172, 0, none⟩ = some (.int .i64 a0_0) := (bc_ BK172.out 0).trans rfl
      have hcz42_1 : wc.cell? ⟨gb172, 1, none⟩ = some (.int .i64 a0_1) := (bc_ BK172.out 1).trans rfl
      have hcz42_2 : wc.cell? ⟨gb172, 2, none⟩ = some (.int .i64 a0_2) := (bc_ BK172.out 2).trans rfl
      have hcz42_3 : wc.cell? ⟨gb172, 3, none⟩ = some (.slice A0_3 l0_3.length c0_3) := (bc_ BK172.out 3).trans rfl
      have hcz42_4 : wc.cell? ⟨gb172, 4, none⟩ = some (.int .i64 a0_4) := (bc_ BK172.out 4).trans rfl
      have hfz42_0 := bf_ BK172.out 0
      have hfz42_1 := bf_ BK172.out 1
      have hfz42_2 := bf_ BK172.out 2
      have hfz42_3 := bf_ BK172.out 3
      have hfz42_4 := bf_ BK172.out 4
      go_wp2_with (first | ((with_reducible refine gate_callee (f := 49) rfl ?_); refine goesL_ (some 56) rfl rfl Try.func49 (by kernel_rfl) rfl #[.slice A0_3 l0_3.length c0_3, .int .i64 ji40, .int .i64 a0_0] rfl (by (try simp only [List.map_toArray, List.map_cons, List.map_nil]); first | done | (simp only [hji40]; rfl) | rfl | (simp only [List.length_drop, List.length_take]; rfl)) ?_; (with_reducible refine (replica_ascending.calls kj1 _ _ l0_3 ji40 a0_0 t179 _ ?side1 ?side2 A41.out).mono ?_); (case side1 => repeat (first | exact (Kd.C_below HR0_3.out HB.out) | (with_reducible refine Kd.C_alloc ?_ _) | (with_reducible refine Kd.C_drewN ?_ _) | (with_reducible refine Kd.C_drew ?_))); (case side2 => exact HC0_3.out); rintro e w43 ⟨rfl, hb⟩; refine ⟨_, rfl, ?_⟩; have n0_ := am_ (bw_ (g := gb172) (o := .cells #[.int .i64 a0_0, .int .i64 a0_1, .int .i64 a0_2, .slice A0_3 l0_3.length c0_3, .int .i64 a0_4] 30 (0, 0)) (pk_ BK172.out) hb); have n1_ := am_ (sp_ (pb1_ HB.out GE172.out) hb); clear BK172; clear HB; have BK172 := n0_; have HB := n1_; clear n0_ n1_; (try clear hb); (try clear hb2); (try clear hk); (try clear hi)))
      go_ret
      exact ⟨by first | rfl | (simp [errW_none, errW_some] <;> rfl) | (simp only [← hji40]; first | rfl | (simp [errW_none, errW_some] <;> rfl)) | (simp [*, errW_none, errW_some] <;> rfl), pb1_ HB.out GE172.out⟩
def replica_agreed.l0 : Nat → Int → Int → Int → List (S87) → Int → Int → Int → List (S87) → Int → Option (Int)
 | 0, _, _, _, _, _, _, _, _, _ => none
 | k + 1, x5, x181000, x181001, x181002, x182000, x182001, x182002, x182003, x182004 => if x5 < (x182003.length : Int) then (if (wrap64 (x182001 + x5)) < (x181002.length : Int) then (if 0 ≤ (wrap64 (x182001 + x5)) then (if 0 ≤ x5 then (if ((rd_T87 x181002 (wrap64 (x182001 + x5))).f0) = ((rd_T87 x182003 x5).f0) then (replica_agreed.l0 k (wrap64 (x5 + 1)) x181000 x181001 x181002 x182000 x182001 x182002 x182003 x182004) else (some (wrap64 (x182001 + x5)))) else (none)) else (none)) else (some (wrap64 (x182001 + x5)))) else (some (wrap64 (x182001 + x5)))
def replica_agreed.f (k : Nat) (a0_0 : Int) (a0_1 : Int) (l0_2 : List (S87)) (a1_0 : Int) (a1_1 : Int) (a1_2 : Int) (l1_3 : List (S87)) (a1_4 : Int) : Option (Int) := replica_agreed.l0 k 0 a0_0 a0_1 l0_2 a1_0 a1_1 a1_2 l1_3 a1_4
set_option maxHeartbeats 8000000 in
set_option maxRecDepth 100000 in
theorem replica_agreed.calls (k : Nat) (a0_0 : Int) (a0_1 : Int) (A0_2 : Option Addr) (c0_2 : Nat) (l0_2 : List (S87)) (a1_0 : Int) (a1_1 : Int) (a1_2 : Int) (A1_3 : Option Addr) (c1_3 : Nat) (l1_3 : List (S87)) (a1_4 : Int) (r : Int) (w : World) (hr0_2 : Kd.C k87 w A0_2 l0_2.length l0_2) (hc0_2 : l0_2.length ≤ c0_2) (hr1_3 : Kd.C k87 w A1_3 l1_3.length l1_3) (hc1_3 : l1_3.length ≤ c1_3) (h : replica_agreed.f k a0_0 a0_1 l0_2 a1_0 a1_1 a1_2 l1_3 a1_4 = some r) :
  Calls Try.prog 37 #[.agg #[.int .i64 a0_0, .int .i64 a0_1, .slice A0_2 l0_2.length c0_2], .agg #[.int .i64 a1_0, .int .i64 a1_1, .int .i64 a1_2, .slice A1_3 l1_3.length c1_3, .int .i64 a1_4]] w fun e w' => e = .returned (.int .i64 r) ∧ Below w.heap.size w w' := by
 have hu35 := Try.underlying35
 have hu30 := Try.underlying30
 have HR0_2 := am_ hr0_2
 have HC0_2 := am_ hc0_2
 clear hr0_2 hc0_2
 have HR1_3 := am_ hr1_3
 have HC1_3 := am_ hc1_3
 clear hr1_3 hc1_3
 have HB := am_ (Below.refl w.heap.size w)
 have H : (replica_agreed.l0 k 0 a0_0 a0_1 l0_2 a1_0 a1_1 a1_2 l1_3 a1_4) = some r := h
 clear h
 have H' := am_ H
 clear H
 go_enter Try.func37, Try.ntmps37
 go_wp2_with (first | ((with_reducible refine gate_dst (N := 2) rfl ?_); (try (refine gate_guard (by rfl) ?_; dsimp only)); refine box_event ?hg (N := 2) ?hd (cs := #[.int .i64 a0_0, .int .i64 a0_1, .slice A0_2 l0_2.length c0_2]) (t := 35) ?hr ?_; (case hd => rfl); (case hg => rfl); (case hr => first | (go_simp; done) | (go_simp; rfl)); intro gb180 hg w3 hbox hb; have n0_ := am_ (sp_ (pb0_ HB.out) hb); have n1_ := am_ (hbox); have n2_ := am_ ((by rw [hg]; exact (bz_ (pb0_ HB.out)) : w.heap.size ≤ gb180)); have n3_ := am_ ((by rw [hg]; exact (bz_ (pb0_ HB.out)) : w.heap.size ≤ gb180)); clear HB; have HB := n0_; have BK180 := n1_; have GW180 := n2_; have GE180 := n3_; clear n0_ n1_ n2_ n3_; clear hb hbox hg) | ((with_reducible refine gate_dst (N := 3) rfl ?_); (try (refine gate_guard (by rfl) ?_; dsimp only)); refine box_event ?hg (N := 3) ?hd (cs := #[.int .i64 a1_0, .int .i64 a1_1, .int .i64 a1_2, .slice A1_3 l1_3.length c1_3, .int .i64 a1_4]) (t := 30) ?hr ?_; (case hd => rfl); (case hg => rfl); (case hr => first | (go_simp; done) | (go_simp; rfl)); intro gb181 hg w4 hbox hb; have n0_ := am_ (bw_ (g := gb180) (o := .cells #[.int .i64 a0_0, .int .i64 a0_1, .slice A0_2 l0_2.length c0_2] 35 (0, 0)) (pk_ BK180.out) hb); have n1_ := am_ (sp_ (pb1_ HB.out GE180.out) hb); have n2_ := am_ (hbox); have n3_ := am_ ((by rw [hg]; exact (bz_ (pb1_ HB.out GE180.out)) : w.heap.size ≤ gb181)); have n4_ := am_ ((by rw [hg]; exact (bz_ (pb1_ HB.out GE180.out)) : w.heap.size ≤ gb181)); have n5_ := am_ ((by rw [hg]; exact Nat.ne_of_lt (blk_lt (g := gb180) (o := .cells #[.int .i64 a0_0, .int .i64 a0_1, .slice A0_2 l0_2.length c0_2] 35 (0, 0)) (pk_ BK180.out)) : gb180 ≠ gb181)); have n6_ := am_ ((by rw [hg]; exact Nat.ne_of_gt (blk_lt (g := gb180) (o := .cells #[.int .i64 a0_0, .int .i64 a0_1, .slice A0_2 l0_2.length c0_2] 35 (0, 0)) (pk_ BK180.out)) : gb181 ≠ gb180)); clear BK180; clear HB; have BK180 := n0_; have HB := n1_; have BK181 := n2_; have GW181 := n3_; have GE181 := n4_; have NB180_181 := n5_; have NB181_180 := n6_; clear n0_ n1_ n2_ n3_ n4_ n5_ n6_; clear hb hbox hg))
 repeat (go_quiet (first | ((with_reducible refine gate_dst (N := 2) rfl ?_); (try (refine gate_guard (by rfl) ?_; dsimp only)); refine box_event ?hg (N := 2) ?hd (cs := #[.int .i64 a0_0, .int .i64 a0_1, .slice A0_2 l0_2.length c0_2]) (t := 35) ?hr ?_; (case hd => rfl); (case hg => rfl); (case hr => first | (go_simp; done) | (go_simp; rfl)); intro gb180 hg w3 hbox hb; have n0_ := am_ (sp_ (pb0_ HB.out) hb); have n1_ := am_ (hbox); have n2_ := am_ ((by rw [hg]; exact (bz_ (pb0_ HB.out)) : w.heap.size ≤ gb180)); have n3_ := am_ ((by rw [hg]; exact (bz_ (pb0_ HB.out)) : w.heap.size ≤ gb180)); clear HB; have HB := n0_; have BK180 := n1_; have GW180 := n2_; have GE180 := n3_; clear n0_ n1_ n2_ n3_; clear hb hbox hg) | ((with_reducible refine gate_dst (N := 3) rfl ?_); (try (refine gate_guard (by rfl) ?_; dsimp only)); refine box_event ?hg (N := 3) ?hd (cs := #[.int .i64 a1_0, .int .i64 a1_1, .int .i64 a1_2, .slice A1_3 l1_3.length c1_3, .int .i64 a1_4]) (t := 30) ?hr ?_; (case hd => rfl); (case hg => rfl); (case hr => first | (go_simp; done) | (go_simp; rfl)); intro gb181 hg w4 hbox hb; have n0_ := am_ (bw_ (g := gb180) (o := .cells #[.int .i64 a0_0, .int .i64 a0_1, .slice A0_2 l0_2.length c0_2] 35 (0, 0)) (pk_ BK180.out) hb); have n1_ := am_ (sp_ (pb1_ HB.out GE180.out) hb); have n2_ := am_ (hbox); have n3_ := am_ ((by rw [hg]; exact (bz_ (pb1_ HB.out GE180.out)) : w.heap.size ≤ gb181)); have n4_ := am_ ((by rw [hg]; exact (bz_ (pb1_ HB.out GE180.out)) : w.heap.size ≤ gb181)); have n5_ := am_ ((by rw [hg]; exact Nat.ne_of_lt (blk_lt (g := gb180) (o := .cells #[.int .i64 a0_0, .int .i64 a0_1, .slice A0_2 l0_2.length c0_2] 35 (0, 0)) (pk_ BK180.out)) : gb180 ≠ gb181)); have n6_ := am_ ((by rw [hg]; exact Nat.ne_of_gt (blk_lt (g := gb180) (o := .cells #[.int .i64 a0_0, .int .i64 a0_1, .slice A0_2 l0_2.length c0_2] 35 (0, 0)) (pk_ BK180.out)) : gb181 ≠ gb180)); clear BK180; clear HB; have BK180 := n0_; have HB := n1_; have BK181 := n2_; have GW181 := n3_; have GE181 := n4_; have NB180_181 := n5_; have NB181_180 := n6_; clear n0_ n1_ n2_ n3_ n4_ n5_ n6_; clear hb hbox hg)); try go_wp2_with (first | ((with_reducible refine gate_dst (N := 2) rfl ?_); (try (refine gate_guard (by rfl) ?_; dsimp only)); refine box_event ?hg (N := 2) ?hd (cs := #[.int .i64 a0_0, .int .i64 a0_1, .slice A0_2 l0_2.length c0_2]) (t := 35) ?hr ?_; (case hd => rfl); (case hg => rfl); (case hr => first | (go_simp; done) | (go_simp; rfl)); intro gb180 hg w3 hbox hb; have n0_ := am_ (sp_ (pb0_ HB.out) hb); have n1_ := am_ (hbox); have n2_ := am_ ((by rw [hg]; exact (bz_ (pb0_ HB.out)) : w.heap.size ≤ gb180)); have n3_ := am_ ((by rw [hg]; exact (bz_ (pb0_ HB.out)) : w.heap.size ≤ gb180)); clear HB; have HB := n0_; have BK180 := n1_; have GW180 := n2_; have GE180 := n3_; clear n0_ n1_ n2_ n3_; clear hb hbox hg) | ((with_reducible refine gate_dst (N := 3) rfl ?_); (try (refine gate_guard (by rfl) ?_; dsimp only)); refine box_event ?hg (N := 3) ?hd (cs := #[.int .i64 a1_0, .int .i64 a1_1, .int .i64 a1_2, .slice A1_3 l1_3.length c1_3, .int .i64 a1_4]) (t := 30) ?hr ?_; (case hd => rfl); (case hg => rfl); (case hr => first | (go_simp; done) | (go_simp; rfl)); intro gb181 hg w4 hbox hb; have n0_ := am_ (bw_ (g := gb180) (o := .cells #[.int .i64 a0_0, .int .i64 a0_1, .slice A0_2 l0_2.length c0_2] 35 (0, 0)) (pk_ BK180.out) hb); have n1_ := am_ (sp_ (pb1_ HB.out GE180.out) hb); have n2_ := am_ (hbox); have n3_ := am_ ((by rw [hg]; exact (bz_ (pb1_ HB.out GE180.out)) : w.heap.size ≤ gb181)); have n4_ := am_ ((by rw [hg]; exact (bz_ (pb1_ HB.out GE180.out)) : w.heap.size ≤ gb181)); have n5_ := am_ ((by rw [hg]; exact Nat.ne_of_lt (blk_lt (g := gb180) (o := .cells #[.int .i64 a0_0, .int .i64 a0_1, .slice A0_2 l0_2.length c0_2] 35 (0, 0)) (pk_ BK180.out)) : gb180 ≠ gb181)); have n6_ := am_ ((by rw [hg]; exact Nat.ne_of_gt (blk_lt (g := gb180) (o := .cells #[.int .i64 a0_0, .int .i64 a0_1, .slice A0_2 l0_2.length c0_2] 35 (0, 0)) (pk_ BK180.out)) : gb181 ≠ gb180)); clear BK180; clear HB; have BK180 := n0_; have HB := n1_; have BK181 := n2_; have GW181 := n3_; have GE181 := n4_; have NB180_181 := n5_; have NB181_180 := n6_; clear n0_ n1_ n2_ n3_ n4_ n5_ n6_; clear hb hbox hg)))
 go_loopg [5] k (fun kq v5 w' => ∃ (x5_1 : Int), v5 = .int .i64 x5_1 ∧ Aside0 (replica_agreed.l0 kq x5_1 a0_0 a0_1 l0_2 a1_0 a1_1 a1_2 l1_3 a1_4 = some r) ∧ Aside0 (kq ≤ k) ∧ Aside0 (w'.heap[gb180]? = some (.cells #[.int .i64 a0_0, .int .i64 a0_1, (.slice A0_2 l0_2.length c0_2)] 35 (0, 0))) ∧ Aside0 (w'.heap[gb181]? = some (.cells #[.int .i64 a1_0, .int .i64 a1_1, .int .i64 a1_2, (.slice A1_3 l1_3.length c1_3), .int .i64 a1_4] 30 (0, 0))) ∧ Aside0 (Below w.heap.size w w'))
 case atStart => exact ⟨(0), (by first | rfl | (simp; done) | (simp [*]; done)), H', ⟨Nat.le_refl _⟩, ⟨by (with_reducible repeat (first | refine bn_ ?_ _ | refine bd_ ?_ | refine ba_ ?_ _)); exact BK180.out⟩, ⟨by (with_reducible repeat (first | refine bn_ ?_ _ | refine bd_ ?_ | refine ba_ ?_ _)); exact BK181.out⟩, ⟨pb2_ HB.out GE180.out GE181.out⟩⟩
 case round =>
  clear H'
  try clear c1
  try clear p2
  try clear c3
  obtain ⟨x5_1, rfl, HA, HK1, BK180, BK181, HB⟩ := hrel
  cases gk with
  | zero => exact absurd HA.out (by simp [replica_agreed.l0])
  | succ k1 =>
   have H := HA.out
   clear HA
   simp only [replica_agreed.l0] at H
   by_cases c5 : x5_1 < (l1_3.length : Int)
   ·
    rw [if_pos c5] at H
    have c5b0 : decide (x5_1 < (l1_3.length : Int)) = true := de_ c5
    clear c5
    by_cases c6 : (wrap64 (a1_1 + x5_1)) < (l0_2.length : Int)
    ·
     rw [if_pos c6] at H
     have c6b0 : decide ((wrap64 (a1_1 + x5_1)) < (l0_2.length : Int)) = true := de_ c6
     clear c6
     obtain ⟨ji7, hji7⟩ : ∃ j_ : Int, (wrap64 (a1_1 + x5_1)) = j_ := ⟨_, rfl⟩
     replace H : (if 0 ≤ (ji7) then (if 0 ≤ x5_1 then (if ((rd_T87 l0_2 (ji7)).f0) = ((rd_T87 l1_3 x5_1).f0) then (replica_agreed.l0 k1 (wrap64 (x5_1 + 1)) a0_0 a0_1 l0_2 a1_0 a1_1 a1_2 l1_3 a1_4) else (some ji7)) else (none)) else (none)) = some r := by first | (rw [hji7] at H; exact H) | (simp only [hji7] at H ⊢; exact H)
     (try rw [hji7] at c6b0)
     have hji7w : (IntKind.i64.wrap (a1_1 + x5_1)) = ji7 := (i64_w _).trans hji7
     by_cases c8 : 0 ≤ (ji7)
     ·
      rw [if_pos c8] at H
      have c8b0 : decide (0 ≤ (ji7)) = true := de_ c8
      clear c8
      by_cases c9 : 0 ≤ x5_1
      ·
       rw [if_pos c9] at H
       have c9b0 : decide (0 ≤ x5_1) = true := de_ c9
       clear c9
       by_cases c10 : ((rd_T87 l0_2 (ji7)).f0) = ((rd_T87 l1_3 x5_1).f0)
       ·
        rw [if_pos c10] at H
        have c10b0 : (((rd_T87 l0_2 (ji7)).f0) == ((rd_T87 l1_3 x5_1).f0)) = true := beq_iff_eq.mpr c10
        have c10b1 : (((rd_T87 l0_2 (ji7)).f0) != ((rd_T87 l1_3 x5_1).f0)) = false := bne_eq_false_iff_eq.mpr c10
        clear c10
        have H' := am_ H
        clear H
        have hnb11 := NB181_180.out
        have hnc11 := NB180_181.out
        have hcz12_0 : wr.cell? ⟨gb181, 0, none⟩ = some (.int .i64 a1_0) := (bc_ BK181.out 0).trans rfl
        have hcz12_1 : wr.cell? ⟨gb181, 1, none⟩ = some (.int .i64 a1_1) := (bc_ BK181.out 1).trans rfl
        have hcz12_2 : wr.cell? ⟨gb181, 2, none⟩ = some (.int .i64 a1_2) := (bc_ BK181.out 2).trans rfl
        have hcz12_3 : wr.cell? ⟨gb181, 3, none⟩ = some (.slice A1_3 l1_3.length c1_3) := (bc_ BK181.out 3).trans rfl
        have hcz12_4 : wr.cell? ⟨gb181, 4, none⟩ = some (.int .i64 a1_4) := (bc_ BK181.out 4).trans rfl
        have hfz12_0 := bf_ BK181.out 0
        have hfz12_1 := bf_ BK181.out 1
        have hfz12_2 := bf_ BK181.out 2
        have hfz12_3 := bf_ BK181.out 3
        have hfz12_4 := bf_ BK181.out 4
        have hcz13_0 : wr.cell? ⟨gb180, 0, none⟩ = some (.int .i64 a0_0) := (bc_ BK180.out 0).trans rfl
        have hcz13_1 : wr.cell? ⟨gb180, 1, none⟩ = some (.int .i64 a0_1) := (bc_ BK180.out 1).trans rfl
        have hcz13_2 : wr.cell? ⟨gb180, 2, none⟩ = some (.slice A0_2 l0_2.length c0_2) := (bc_ BK180.out 2).trans rfl
        have hfz13_0 := bf_ BK180.out 0
        have hfz13_1 := bf_ BK180.out 1
        have hfz13_2 := bf_ BK180.out 2
        have p182 : 0 ≤ ((ji7) : Int) := ot_ (by first | (with_reducible assumption) | assumption)
        have q182 : (ji7) < (l0_2.length : Int) := ot_ (by first | (with_reducible assumption) | assumption)
        obtain ⟨ad182, A182_1, c182_1, e182, hx182_0, hx182_1, hl182_1, hi182_1⟩ := at_T87 HR0_2.out (ji7) p182 q182
        cases e182
        replace hx182_0 := (HB.out.cell (bk_ w _ hx182_0)).trans hx182_0
        replace hx182_1 := (HB.out.cell (bk_ w _ hx182_1)).trans hx182_1
        have HR182_1 := am_ hi182_1
        have HC182_1 := am_ hl182_1
        clear hi182_1 hl182_1
        replace p182 := eq_true p182
        replace q182 := eq_true q182
        have p183 : 0 ≤ (x5_1 : Int) := ot_ (by first | (with_reducible assumption) | assumption)
        have q183 : x5_1 < (l1_3.length : Int) := ot_ (by first | (with_reducible assumption) | assumption)
        obtain ⟨ad183, A183_1, c183_1, e183, hx183_0, hx183_1, hl183_1, hi183_1⟩ := at_T87 HR1_3.out x5_1 p183 q183
        cases e183
        replace hx183_0 := (HB.out.cell (bk_ w _ hx183_0)).trans hx183_0
        replace hx183_1 := (HB.out.cell (bk_ w _ hx183_1)).trans hx183_1
        have HR183_1 := am_ hi183_1
        have HC183_1 := am_ hl183_1
        clear hi183_1 hl183_1
        replace p183 := eq_true p183
        replace q183 := eq_true q183
        go_wp2
        repeat (go_quiet (fail); try go_wp2)
        go_roundg k1
        case measure => have := HK1.out; omega
        case rel => exact ⟨(wrap64 (x5_1 + 1)), (by first | rfl | (simp; done) | (simp [*]; done)), H', ⟨by have := HK1.out; omega⟩, ⟨by (with_reducible repeat (first | refine bn_ ?_ _ | refine bd_ ?_ | refine ba_ ?_ _)); exact BK180.out⟩, ⟨by (with_reducible repeat (first | refine bn_ ?_ _ | refine bd_ ?_ | refine ba_ ?_ _)); exact BK181.out⟩, ⟨pb2_ HB.out GE180.out GE181.out⟩⟩
       ·
        rw [if_neg c10] at H
        have c10b0 : (((rd_T87 l0_2 (ji7)).f0) == ((rd_T87 l1_3 x5_1).f0)) = false := beq_eq_false_iff_ne.mpr c10
        have c10b1 : (((rd_T87 l0_2 (ji7)).f0) != ((rd_T87 l1_3 x5_1).f0)) = true := bne_iff_ne.mpr c10
        obtain rfl := si_ H
        have hnb14 := NB181_180.out
        have hnc14 := NB180_181.out
        have hcz15_0 : wr.cell? ⟨gb181, 0, none⟩ = some (.int .i64 a1_0) := (bc_ BK181.out 0).trans rfl
        have hcz15_1 : wr.cell? ⟨gb181, 1, none⟩ = some (.int .i64 a1_1) := (bc_ BK181.out 1).trans rfl
        have hcz15_2 : wr.cell? ⟨gb181, 2, none⟩ = some (.int .i64 a1_2) := (bc_ BK181.out 2).trans rfl
        have hcz15_3 : wr.cell? ⟨gb181, 3, none⟩ = some (.slice A1_3 l1_3.length c1_3) := (bc_ BK181.out 3).trans rfl
        have hcz15_4 : wr.cell? ⟨gb181, 4, none⟩ = some (.int .i64 a1_4) := (bc_ BK181.out 4).trans rfl
        have hfz15_0 := bf_ BK181.out 0
        have hfz15_1 := bf_ BK181.out 1
        have hfz15_2 := bf_ BK181.out 2
        have hfz15_3 := bf_ BK181.out 3
        have hfz15_4 := bf_ BK181.out 4
        have hcz16_0 : wr.cell? ⟨gb180, 0, none⟩ = some (.int .i64 a0_0) := (bc_ BK180.out 0).trans rfl
        have hcz16_1 : wr.cell? ⟨gb180, 1, none⟩ = some (.int .i64 a0_1) := (bc_ BK180.out 1).trans rfl
        have hcz16_2 : wr.cell? ⟨gb180, 2, none⟩ = some (.slice A0_2 l0_2.length c0_2) := (bc_ BK180.out 2).trans rfl
        have hfz16_0 := bf_ BK180.out 0
        have hfz16_1 := bf_ BK180.out 1
        have hfz16_2 := bf_ BK180.out 2
        have p182 : 0 ≤ ((ji7) : Int) := ot_ (by first | (with_reducible assumption) | assumption)
        have q182 : (ji7) < (l0_2.length : Int) := ot_ (by first | (with_reducible assumption) | assumption)
        obtain ⟨ad182, A182_1, c182_1, e182, hx182_0, hx182_1, hl182_1, hi182_1⟩ := at_T87 HR0_2.out (ji7) p182 q182
        cases e182
        replace hx182_0 := (HB.out.cell (bk_ w _ hx182_0)).trans hx182_0
        replace hx182_1 := (HB.out.cell (bk_ w _ hx182_1)).trans hx182_1
        have HR182_1 := am_ hi182_1
        have HC182_1 := am_ hl182_1
        clear hi182_1 hl182_1
        replace p182 := eq_true p182
        replace q182 := eq_true q182
        have p183 : 0 ≤ (x5_1 : Int) := ot_ (by first | (with_reducible assumption) | assumption)
        have q183 : x5_1 < (l1_3.length : Int) := ot_ (by first | (with_reducible assumption) | assumption)
        obtain ⟨ad183, A183_1, c183_1, e183, hx183_0, hx183_1, hl183_1, hi183_1⟩ := at_T87 HR1_3.out x5_1 p183 q183
        cases e183
        replace hx183_0 := (HB.out.cell (bk_ w _ hx183_0)).trans hx183_0
        replace hx183_1 := (HB.out.cell (bk_ w _ hx183_1)).trans hx183_1
        have HR183_1 := am_ hi183_1
        have HC183_1 := am_ hl183_1
        clear hi183_1 hl183_1
        replace p183 := eq_true p183
        replace q183 := eq_true q183
        go_wp2
        repeat (go_quiet (fail); try go_wp2)
        go_ret
        exact ⟨by first | rfl | (simp [errW_none, errW_some] <;> rfl) | (simp only [← hji7]; first | rfl | (simp [errW_none, errW_some] <;> rfl)) | (simp [*, errW_none, errW_some] <;> rfl), pb2_ HB.out GE180.out GE181.out⟩
      ·
       rw [if_neg c9] at H
       exact absurd H (by simp)
     ·
      rw [if_neg c8] at H
      exact absurd H (by simp)
    ·
     rw [if_neg c6] at H
     have c6b0 : decide ((wrap64 (a1_1 + x5_1)) < (l0_2.length : Int)) = false := df_ c6
     clear c6
     obtain rfl := si_ H
     have hnb17 := NB181_180.out
     have hnc17 := NB180_181.out
     have hcz18_0 : wr.cell? ⟨gb181, 0, none⟩ = some (.int .i64 a1_0) := (bc_ BK181.out 0).trans rfl
     have hcz18_1 : wr.cell? ⟨gb181, 1, none⟩ = some (.int .i64 a1_1) := (bc_ BK181.out 1).trans rfl
     have hcz18_2 : wr.cell? ⟨gb181, 2, none⟩ = some (.int .i64 a1_2) := (bc_ BK181.out 2).trans rfl
     have hcz18_3 : wr.cell? ⟨gb181, 3, none⟩ = some (.slice A1_3 l1_3.length c1_3) := (bc_ BK181.out 3).trans rfl
     have hcz18_4 : wr.cell? ⟨gb181, 4, none⟩ = some (.int .i64 a1_4) := (bc_ BK181.out 4).trans rfl
     have hfz18_0 := bf_ BK181.out 0
     have hfz18_1 := bf_ BK181.out 1
     have hfz18_2 := bf_ BK181.out 2
     have hfz18_3 := bf_ BK181.out 3
     have hfz18_4 := bf_ BK181.out 4
     have hcz19_0 : wr.cell? ⟨gb180, 0, none⟩ = some (.int .i64 a0_0) := (bc_ BK180.out 0).trans rfl
     have hcz19_1 : wr.cell? ⟨gb180, 1, none⟩ = some (.int .i64 a0_1) := (bc_ BK180.out 1).trans rfl
     have hcz19_2 : wr.cell? ⟨gb180, 2, none⟩ = some (.slice A0_2 l0_2.length c0_2) := (bc_ BK180.out 2).trans rfl
     have hfz19_0 := bf_ BK180.out 0
     have hfz19_1 := bf_ BK180.out 1
     have hfz19_2 := bf_ BK180.out 2
     go_wp2
     repeat (go_quiet (fail); try go_wp2)
     go_ret
     exact ⟨by first | rfl | (simp [errW_none, errW_some] <;> rfl) | (simp [*, errW_none, errW_some] <;> rfl), pb2_ HB.out GE180.out GE181.out⟩
   ·
    rw [if_neg c5] at H
    have c5b0 : decide (x5_1 < (l1_3.length : Int)) = false := df_ c5
    clear c5
    obtain rfl := si_ H
    have hnb20 := NB181_180.out
    have hnc20 := NB180_181.out
    have hcz21_0 : wr.cell? ⟨gb181, 0, none⟩ = some (.int .i64 a1_0) := (bc_ BK181.out 0).trans rfl
    have hcz21_1 : wr.cell? ⟨gb181, 1, none⟩ = some (.int .i64 a1_1) := (bc_ BK181.out 1).trans rfl
    have hcz21_2 : wr.cell? ⟨gb181, 2, none⟩ = some (.int .i64 a1_2) := (bc_ BK181.out 2).trans rfl
    have hcz21_3 : wr.cell? ⟨gb181, 3, none⟩ = some (.slice A1_3 l1_3.length c1_3) := (bc_ BK181.out 3).trans rfl
    have hcz21_4 : wr.cell? ⟨gb181, 4, none⟩ = some (.int .i64 a1_4) := (bc_ BK181.out 4).trans rfl
    have hfz21_0 := bf_ BK181.out 0
    have hfz21_1 := bf_ BK181.out 1
    have hfz21_2 := bf_ BK181.out 2
    have hfz21_3 := bf_ BK181.out 3
    have hfz21_4 := bf_ BK181.out 4
    go_wp2
    repeat (go_quiet (fail); try go_wp2)
    go_ret
    exact ⟨by first | rfl | (simp [errW_none, errW_some] <;> rfl) | (simp [*, errW_none, errW_some] <;> rfl), pb2_ HB.out GE180.out GE181.out⟩
end Go.Proofs.Ytbigcpjlahkggaa.Q
