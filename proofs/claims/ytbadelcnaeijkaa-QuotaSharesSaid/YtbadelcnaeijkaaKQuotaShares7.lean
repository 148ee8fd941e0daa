import Derived.Test.YtbadelcnaeijkaaKQuotaShares6
import Derived.Laws.Bits128
import Derived.Sort.LotA
set_option linter.unusedVariables false
set_option linter.unusedSimpArgs false
section
namespace Go.Proofs.Ytbadelcnaeijkaa.Q
open Go.RowKit Go.Proofs.YtbadelcnaeijkaaW.PrintWords Go.Proofs.YtbadelcnaeijkaaW.PrintLast Go.Proofs.YtbadelcnaeijkaaW.PrintMore
attribute [local go_sem] max2_int min2_int max_two min_two max_three min_three max_four min_four
attribute [local go_sem ↓] isSome_setCell
attribute [local go_sem] string_gtr
set_option linter.unusedVariables false
set_option linter.unusedSimpArgs false
def tapearchivelaw32_QuotaShares.j0 : Nat → Int → List Int → Option (Bool)
 | 0, _, _ => none
 | k + 1, x0, x1 => (quota_Share.f x0 x1).bind fun bt250 => ((tapearchiveref32_Share.f k x0 x1).bind fun bt254 => ((tapearchivelaw32_same.f k bt250.1 bt254.1).bind fun t258 => (if t258 = true then (if bt250.2 = bt254.2 then ((tapearchivelaw32_awake.f k).bind fun t259 => (some t259)) else (some false)) else (some false))))
def tapearchivelaw32_QuotaShares.f (k : Nat) (a0 : Int) (l1 : List Int) : Option (Bool) := if (l1.length : Int) > 40 then (if 40 ≤ (l1.length : Int) then (tapearchivelaw32_QuotaShares.j0 k a0 (l1.take 40)) else (none)) else (tapearchivelaw32_QuotaShares.j0 k a0 l1)
set_option maxHeartbeats 8000000 in
set_option maxRecDepth 100000 in
theorem tapearchivelaw32_QuotaShares.calls (k : Nat) (a0 : Int) (P1_ : Nat → Prop) (A1 : Option Addr) (c1 : Nat) (l1 : List Int) (r : Bool) (w : World) (HRT : Aside0 (r = true)) (hs1 : Kd.V (Kd.int .i64) 3 w w.heap.size (fun k_ => P1_ k_) (.slice A1 l1.length c1) l1) (h : tapearchivelaw32_QuotaShares.f k a0 l1 = some r) :
  Calls Try.prog 4 #[.int .i64 a0, .slice A1 l1.length c1] w fun e w' => e = .returned (.bool r) ∧ Below w.heap.size w w' := by
 have HO1 := am_ (show Kd.V (Kd.int .i64) 3 w w.heap.size (fun k_ => (P1_ k_ ∨ w.heap.size ≤ k_)) (.slice A1 l1.length c1) l1 from vm_ hs1 (fun k_ hk => .inl hk)); have HB := am_ (Below.refl w.heap.size w); have H : (if (l1.length : Int) > 40 then (if 40 ≤ (l1.length : Int) then (tapearchivelaw32_QuotaShares.j0 k a0 (l1.take 40)) else (none)) else (tapearchivelaw32_QuotaShares.j0 k a0 l1)) = some r := h; clear h; have HC3 := am_ H; clear H; go_enter Try.func4, Try.ntmps4
 go_upto_if 11 with (fail)
 go_cut [1] (fun v1 wc => ∃ (kq : Nat) (x1_2 : List Int), Aside0 (tapearchivelaw32_QuotaShares.j0 kq a0 x1_2 = some r) ∧ Aside0 (kq ≤ k) ∧ Aside0 (Kd.V (Kd.int .i64) 3 wc w.heap.size (fun k_ => (P1_ k_ ∨ w.heap.size ≤ k_)) v1 x1_2) ∧ Aside0 (Below w.heap.size w wc))
 case first =>
  have H := HC3.out; clear HC3
  by_cases c4 : (l1.length : Int) > 40
  ·
   rw [if_pos c4] at H; have c4b0 : decide (40 < (l1.length : Int)) = true := de_ c4; have c4b1 : decide (40 < l1.length) = true := de_ (by omega); clear c4
   (first | rw [c4b0] | (simp only [i64_w, i32_w]; rw [c4b0]) | rw [c4b2] | rw [c4b1] | skip)
   by_cases c5 : 40 ≤ (l1.length : Int)
   ·
    rw [if_pos c5] at H; have c5b0 := eq_true c5; have c5b1 : decide (40 ≤ (l1.length : Int)) = true := de_ c5; clear c5; obtain ⟨y245, hy245⟩ : ∃ y_ : List Int, y_ = (l1.take 40) := ⟨_, rfl⟩; replace H : (tapearchivelaw32_QuotaShares.j0 k a0 y245) = some r := by first | (rw [hy245]; with_reducible exact H) | (have H2_ := (Option.bind_some _ _).symm.trans H; rw [hy245]; with_reducible exact H2_) | (have H2_ := (Option.bind_some _ _).symm.trans H; with_reducible exact H2_) | with_reducible exact H | (rw [hy245]; exact H) | exact H
    have Ny245 := am_ hy245; clear hy245; have H' := am_ H; clear H; have q6 : (40 : Int) ≤ ((l1.length : Int) : Int) := ot_ (by first | (with_reducible assumption) | assumption); obtain ⟨i06, hi06, _, hsz6, _⟩ := info_parts info3; have hroom6 : l1.length ≤ c1 := (Kd.V_reads' HO1.out).2.1; have hC6 : Kd.F (Kd.int .i64) _ _ A1 l1.length l1 := (Kd.V_at (base := w.heap.size) HO1.out).2.2; have hcut6 := cut_to (P := Try.prog) 33 3 .i64 Try.underlying33 hi06 A1 l1.length c1 40 (by omega) q6 hroom6; have hr6 := Kd.F_take (m := 40) hC6 (by omega); have hy6 : y245.length = (40 : Int).toNat := (by rw [Ny245.out, List.length_take]; omega); rw [← Ny245.out] at hr6; rw [← hy6] at hcut6; have HO249 := am_ (show Kd.V (Kd.int .i64) 3 _ w.heap.size _ (.slice A1 y245.length c1) y245 from Kd.V_mk (by omega) hr6); have HC249 := am_ (show y245.length ≤ c1 from by omega); clear hr6 hC6 hroom6 hi06 hsz6; have KY6 := am_ hy6; clear hy6; replace q6 := eq_true q6; go_wp2
    go_meet
    case rel => exact ⟨_, (y245), H', ⟨by first | omega | exact Nat.le_refl _⟩, ⟨by (with_reducible repeat (first | apply va_ | apply vn_ | apply vd_)); exact HO249.out⟩, ⟨pb0_ HB.out⟩⟩
   ·
    rw [if_neg c5] at H; exact absurd H (by simp)
  ·
   rw [if_neg c4] at H; have c4b0 : decide (40 < (l1.length : Int)) = false := df_ c4; have c4b1 : decide (40 < l1.length) = false := df_ (by omega); clear c4
   (first | rw [c4b0] | (simp only [i64_w, i32_w]; rw [c4b0]) | rw [c4b2] | rw [c4b1] | skip)
   have H' := am_ H; clear H; go_wp2
   go_meet
   case rel => exact ⟨_, (l1), H', ⟨by first | omega | exact Nat.le_refl _⟩, ⟨by (with_reducible repeat (first | apply va_ | apply vn_ | apply vd_)); exact HO1.out⟩, ⟨pb0_ HB.out⟩⟩
 case rest =>
  clear HC3
  try clear c1
  try clear p2
  try clear c4
  try clear c4b0
  try clear c4b1
  try clear c4b2
  try clear c5
  try clear c5b0
  try clear c5b1
  try clear q6
  try clear q6
  obtain ⟨kq, x1_2, HA, HJ2, HO_1, HB⟩ := hcut; cases kq with
  | zero => exact absurd HA.out (by simp [tapearchivelaw32_QuotaShares.j0])
  | succ kj2 =>
   have H := HA.out; clear HA; simp only [tapearchivelaw32_QuotaShares.j0] at H; replace H := Option.bind_eq_some_iff.mp H; obtain ⟨⟨t250, t251⟩, A70, H⟩ := H; replace H : ((tapearchiveref32_Share.f kj2 a0 x1_2).bind fun bt254 => ((tapearchivelaw32_same.f kj2 t250 bt254.1).bind fun t258 => (if t258 = true then (if t251 = bt254.2 then ((tapearchivelaw32_awake.f kj2).bind fun t259 => (some t259)) else (some false)) else (some false)))) = some r := H; have A7 := am_ A70; clear A70; replace H := Option.bind_eq_some_iff.mp H; obtain ⟨⟨t254, t255⟩, A80, H⟩ := H; replace H : ((tapearchivelaw32_same.f kj2 t250 t254).bind fun t258 => (if t258 = true then (if t251 = t255 then ((tapearchivelaw32_awake.f kj2).bind fun t259 => (some t259)) else (some false)) else (some false))) = some r := H; have A8 := am_ A80; clear A80; replace H := Option.bind_eq_some_iff.mp H; obtain ⟨t258, A90, H⟩ := H; replace H : (if t258 = true then (if t251 = t255 then ((tapearchivelaw32_awake.f kj2).bind fun t259 => (some t259)) else (some false)) else (some false)) = some r := H; have A9 := am_ A90; clear A90
   by_cases c10 : t258 = true
   ·
    subst c10; have H1 : (if t251 = t255 then ((tapearchivelaw32_awake.f kj2).bind fun t259 => (some t259)) else (some false)) = some r := by rw [if_pos rfl] at H; exact H
    clear H; have H := H1; clear H1
    by_cases c11 : t251 = t255
    ·
     rw [if_pos c11] at H; have c11b0 : (t251 == t255) = true := beq_iff_eq.mpr c11; have c11b1 : (t251 != t255) = false := bne_eq_false_iff_eq.mpr c11; clear c11; replace H := Option.bind_eq_some_iff.mp H; obtain ⟨t259, A120, H⟩ := H; replace H : (some t259) = some r := H; have A12 := am_ A120; clear A120; obtain rfl := si_ H; obtain ⟨Ao13, co13, eo13⟩ := Kd.V_slice HO_1.out; subst eo13
     go_wp2_with (first | ((with_reducible refine gate_callee (f := 14) rfl ?_); refine goesL_ (some 17) rfl rfl Try.func14 (by kernel_rfl) rfl #[.int .i64 a0, .slice Ao13 x1_2.length co13] rfl au_ ?_; (with_reducible refine (quota_Share.calls a0 _ _ x1_2 t250 t251 _ ?side1 ?side2 A7.out).mono ?_); (case side1 => repeat (first | exact (Kd.V_reads' HO_1.out).2.2 | (with_reducible refine Kd.C_alloc ?_ _) | (with_reducible refine Kd.C_drewN ?_ _) | (with_reducible refine Kd.C_drew ?_))); (case side2 => exact (Kd.V_reads' HO_1.out).2.1); rintro e w14 ⟨v252, rfl, ho0, hb⟩; refine ⟨_, rfl, ?_⟩; have n0_ := am_ (Kd.V_elder' (pV_ HO_1.out) (Kd.R_base ho0) hb); have n1_ := am_ (Kd.R_lower (Kd.R_newM (M := fun k_ => (w.heap.size ≤ k_)) ho0 (bz_ (pb0_ HB.out)) (fun k_ h_ => h_)) (bz_ (pb0_ HB.out))); have n2_ := am_ (sp_ (pb0_ HB.out) hb); clear HO_1; clear HB; have HO_1 := n0_; have HO253 := n1_; have HB := n2_; clear n0_ n1_ n2_; (try clear hb); (try clear hb2); (try clear hk); (try clear hi); (try clear ho0)) | ((with_reducible refine gate_callee (f := 15) rfl ?_); refine goesL_ (some 23) rfl rfl Try.func15 (by kernel_rfl) rfl #[.int .i64 a0, .slice Ao13 x1_2.length co13] rfl au_ ?_; (with_reducible refine (tapearchiveref32_Share.calls kj2 a0 _ _ x1_2 t254 t255 _ ?side1 ?side2 A8.out).mono ?_); (case side1 => repeat (first | exact (Kd.V_reads' HO_1.out).2.2 | (with_reducible refine Kd.C_alloc ?_ _) | (with_reducible refine Kd.C_drewN ?_ _) | (with_reducible refine Kd.C_drew ?_))); (case side2 => exact (Kd.V_reads' HO_1.out).2.1); rintro e w15 ⟨v256, rfl, ho0, hb⟩; refine ⟨_, rfl, ?_⟩; have n0_ := am_ (Kd.V_elder' (pV_ HO_1.out) (Kd.R_base ho0) hb); have n1_ := am_ (Kd.R_elder' (pR_ HO253.out) (Kd.R_base ho0) hb); have n2_ := am_ (Kd.R_lower (Kd.R_new' (Kd.R_newM (M := fun k_ => (w.heap.size ≤ k_)) ho0 (bz_ (pb0_ HB.out)) (fun k_ h_ => h_)) (Kd.R_lt (pR_ HO253.out))) (bz_ (pb0_ HB.out))); have n3_ := am_ (sp_ (pb0_ HB.out) hb); clear HO_1; clear HO253; clear HB; have HO_1 := n0_; have HO253 := n1_; have HO257 := n2_; have HB := n3_; clear n0_ n1_ n2_ n3_; (try clear hb); (try clear hb2); (try clear hk); (try clear hi); (try clear ho0); obtain ⟨Ao16, co16, eo16⟩ := Kd.R_slice HO253.out; subst eo16; obtain ⟨Ao17, co17, eo17⟩ := Kd.R_slice HO257.out; subst eo17) | ((with_reducible refine gate_callee (f := 16) rfl ?_); refine goesL_ (some 28) rfl rfl Try.func16 (by kernel_rfl) rfl #[.slice Ao16 t250.length co16, .slice Ao17 t254.length co17] rfl au_ ?_; (with_reducible refine (tapearchivelaw32_same.calls kj2 _ _ t250 _ _ t254 true _ ?side1 ?side2 ?side3 ?side4 A9.out).mono ?_); (case side1 => repeat (first | exact (Kd.R_reads' HO253.out).2.2 | (with_reducible refine Kd.C_alloc ?_ _) | (with_reducible refine Kd.C_drewN ?_ _) | (with_reducible refine Kd.C_drew ?_))); (case side2 => exact (Kd.R_reads' HO253.out).2.1); (case side3 => repeat (first | exact (Kd.R_reads' HO257.out).2.2 | (with_reducible refine Kd.C_alloc ?_ _) | (with_reducible refine Kd.C_drewN ?_ _) | (with_reducible refine Kd.C_drew ?_))); (case side4 => exact (Kd.R_reads' HO257.out).2.1); rintro e w' ⟨rfl, ⟨nd, rfl⟩⟩; refine ⟨_, rfl, ?_⟩) | (go_at_call 13; (with_reducible refine (tapearchivelaw32_awake.calls kj2  t259 _ ?side1 A12.out).mono ?_); (case side1 => exact HRT); rintro e w18 ⟨rfl, hb⟩; have n0_ := am_ (vb_ (pV_ HO_1.out) hb); have n1_ := am_ (Kd.R_below (pR_ HO253.out) hb); have n2_ := am_ (Kd.R_below (pR_ HO257.out) hb); have n3_ := am_ (sp_ (pb0_ HB.out) hb); clear HO_1; clear HO253; clear HO257; clear HB; have HO_1 := n0_; have HO253 := n1_; have HO257 := n2_; have HB := n3_; clear n0_ n1_ n2_ n3_; (try clear hb); (try clear hb2); (try clear hk); (try clear hi)))
     go_ret; exact ⟨by first | rfl | (simp [errW_none, errW_some] <;> rfl) | (simp [*, errW_none, errW_some] <;> rfl), pb0_ HB.out⟩
    ·
     rw [if_neg c11] at H; have c11b0 : (t251 == t255) = false := beq_eq_false_iff_ne.mpr c11; have c11b1 : (t251 != t255) = true := bne_iff_ne.mpr c11; exact absurd ((si_ H).trans HRT.out) Bool.false_ne_true
   ·
    replace c10 := Bool.eq_false_iff.mpr c10; subst c10; have H1 : (some false) = some r := by rw [if_neg (show ¬ (false = true) by decide)] at H; exact H
    clear H; have H := H1; clear H1; exact absurd ((si_ H).trans HRT.out) Bool.false_ne_true
end Go.Proofs.Ytbadelcnaeijkaa.Q
end
section
namespace Go.Proofs.Ytbadelcnaeijkaa.SQuotaShares
open Go.RowKit Go.Proofs.Ytbadelcnaeijkaa.Q Go.Proofs.YtbadelcnaeijkaaW.PrintWords Go.Proofs.YtbadelcnaeijkaaW.PrintLast Go.Proofs.YtbadelcnaeijkaaW.Opens Go.Proofs.YtbadelcnaeijkaaW
set_option linter.unusedVariables false
def Pure : Prop := ∀ (x0 : Int) (x1 : List Int), (Lit.int .i64 x0).wf = true → (x1.length ≤ maxLen ∧ x1.length * 8 ≤ 140737488351232 ∧ ∀ y ∈ x1, (Lit.int .i64 y).wf = true) → ∃ k, tapearchivelaw32_QuotaShares.f k x0 x1 = some true
end Go.Proofs.Ytbadelcnaeijkaa.SQuotaShares
end
section
namespace Go.Proofs.Ytbadelcnaeijkaa.Quo
open Go.RowKit Go.Proofs.Ytbadelcnaeijkaa.Q Go.Proofs.YtbadelcnaeijkaaW.PrintWords Go.Proofs.YtbadelcnaeijkaaW.PrintMore Go.Proofs.YtbadelcnaeijkaaW.EvMore
theorem rdI {l : List Int} {i : Nat} (h : i < l.length) : rd l (i : Int) = l[i] := by
  unfold rd
  rw [Int.toNat_natCast, List.getD_eq_getElem?_getD, List.getElem?_eq_getElem h]
  rfl
section
variable (a0 a1 a2 : Int) (l3 : List S66) (l4 : List S133) (l5 : List S135) (l6 : List S137) (l7 : List S139) (l8 : List S141) (l9 : List S55) (l10 : List S143) (m1 : List ByteArray) (m2 : List Int)
end
theorem same_ev (l : List Int) (hl : l.length ≤ 1000000) : Ev (fun k => tapearchivelaw32_same.f k l l) true := by
  unfold tapearchivelaw32_same.f
  refine Ev.pos rfl ?_
  have go : ∀ (d i : Nat), i + d = l.length → Ev (fun k => tapearchivelaw32_same.l0 k l l (i : Int)) true := by
    intro d
    induction d with
    | zero =>
      intro i hi
      exact Ev.next (fun k => by rw [tapearchivelaw32_same.l0]) (Ev.neg (by omega) (Ev.done fun _ => rfl))
    | succ d ih =>
      intro i hi
      refine Ev.next (fun k => by rw [tapearchivelaw32_same.l0]) (Ev.pos (by omega) (Ev.pos (by omega) (Ev.pos (by omega) (Ev.pos rfl ?_))))
      rw [wrap_in (by omega) (by omega), cast_succ]
      exact ih (i + 1) (by omega)
  exact go l.length 0 (by omega)
theorem awake_ev : Ev (fun k => tapearchivelaw32_awake.f k) true := by
  unfold tapearchivelaw32_awake.f
  refine Ev.bindS rfl (Ev.bindS rfl (Ev.bindS (a := (1, 20)) (by kernel_rfl) (Ev.bindS (a := ([4, 3, 3], 0)) (by kernel_rfl) (Ev.bindS (a := (100, true)) (by kernel_rfl) (Ev.bindS (a := 60) (by kernel_rfl) ?_)))))
  refine Ev.pos rfl (Ev.pos rfl (Ev.pos rfl (Ev.pos rfl (Ev.both (same_ev [4, 3, 3] (by simp)) (Ev.pos rfl (Ev.pos rfl (Ev.done fun _ => rfl)))))))
end Go.Proofs.Ytbadelcnaeijkaa.Quo
end
section
namespace Go.Proofs.Ytbadelcnaeijkaa.Quo
open Go.RowKit Go.Proofs.Ytbadelcnaeijkaa.Q Go.Proofs.YtbadelcnaeijkaaW.PrintWords Go.Proofs.YtbadelcnaeijkaaW.PrintMore Go.Proofs.YtbadelcnaeijkaaW.EvMore
theorem i64_and1 (n : Int) : bits .and .i64 n 1 = n % 2 := by
  have h1 : (BitVec.ofInt 64 1).toNat = 2 ^ 1 - 1 := by decide
  have key : (BitVec.ofInt 64 n &&& BitVec.ofInt 64 1).toNat = (n % ((2 ^ 64 : Nat) : Int)).toNat % 2 ^ 1 := by
    rw [BitVec.toNat_and, BitVec.toNat_ofInt, h1, Nat.and_two_pow_sub_one_eq_mod]
  show IntKind.i64.wrap ((BitVec.ofInt 64 n &&& BitVec.ofInt 64 1).toNat : Nat) = n % 2
  rw [key, IntKind.wrap_i64]
  omega
theorem bit_at (a d : Nat) (hd : d ≤ 50) : bits .and .i64 (shr .i64 (a : Int) (IntKind.u64.wrap (d : Int))) 1 = ((a / 2 ^ d % 2 : Nat) : Int) := by
  have e : IntKind.u64.wrap (d : Int) = (d : Int) := by rw [IntKind.wrap_u64]; omega
  rw [e, i64_and1]
  unfold shr
  rw [Int.toNat_natCast, Nat.min_eq_left (by show d ≤ 64; omega)]
  push_cast
  rfl
theorem half_pow (a d : Nat) : a / 2 ^ d = 2 * (a / 2 ^ (d + 1)) + a / 2 ^ d % 2 := by
  rw [Nat.pow_succ, ← Nat.div_div_eq_div_mul]
  omega
theorem divide_ev (a b y : Nat) (ha : a ≤ 1125899906842624) (hb : b ≤ y) (hy : y ≤ 1125899906842624) (hy0 : 0 < y) : Ev (fun k => tapearchiveref32_divide.f k (a : Int) (b : Int) (y : Int)) (((a * b / y : Nat) : Int), ((a * b % y : Nat) : Int)) := by
  unfold tapearchiveref32_divide.f
  have go : ∀ (d q r : Nat), d ≤ 51 → q * y + r = a / 2 ^ d * b → r < y → Ev (fun k => tapearchiveref32_divide.l0 k (a : Int) (b : Int) (y : Int) (q : Int) (r : Int) ((d : Int) - 1)) (((a * b / y : Nat) : Int), ((a * b % y : Nat) : Int)) := by
    intro d
    induction d with
    | zero =>
      intro q r _ h hr
      refine Ev.next (fun k => by rw [tapearchiveref32_divide.l0]) (Ev.neg (by omega) (Ev.done fun _ => ?_))
      rw [Nat.pow_zero, Nat.div_one] at h
      have h1 := (Nat.div_mod_unique hy0).2 ⟨show r + y * q = a * b by rw [Nat.mul_comm]; omega, hr⟩
      rw [h1.1, h1.2]
    | succ d ih =>
      intro q r hd h hr
      have hqa : q ≤ a := by
        have h1 : q * y ≤ a * y := by
          have h2 : a / 2 ^ (d + 1) * b ≤ a * y := Nat.mul_le_mul (Nat.div_le_self _ _) hb
          omega
        exact Nat.le_of_mul_le_mul_right h1 hy0
      have hx : ((d + 1 : Nat) : Int) - 1 = (d : Int) := by omega
      have hw : IntKind.u64.wrap (d : Int) = (d : Int) := by rw [IntKind.wrap_u64]; omega
      have hp := half_pow a d
      rw [hx]
      refine Ev.next (fun k => by rw [tapearchiveref32_divide.l0]) (Ev.pos (by omega) (Ev.pos (by rw [hw]; omega) ?_))
      rw [bit_at a d (by omega)]
      have w1 : wrap64 (2 * (q : Int)) = ((2 * q : Nat) : Int) := by rw [wrap_in (by omega) (by omega)]; omega
      have w2 : wrap64 (2 * (r : Int)) = ((2 * r : Nat) : Int) := by rw [wrap_in (by omega) (by omega)]; omega
      have w4 : wrap64 ((d : Int) - 1) = (d : Int) - 1 := wrap_in (by omega) (by omega)
      have hdb : 2 * r / y ≤ 2 * r := Nat.div_le_self _ _
      have hdb2 : (2 * r + b) / y ≤ 2 * r + b := Nat.div_le_self _ _
      rw [w1, w2, w4]
      clear w1 w2 w4 hw hx
      by_cases c : a / 2 ^ d % 2 = 1
      · refine Ev.pos (by rw [c]; rfl) (Ev.neg (by omega) ?_)
        have w3 : wrap64 (((2 * r : Nat) : Int) + (b : Int)) = ((2 * r + b : Nat) : Int) := by rw [wrap_in (by omega) (by omega)]; omega
        rw [w3]
        clear w3
        rw [← Int.ofNat_tdiv, ← Int.ofNat_tmod]
        have hm := Nat.div_add_mod (2 * r + b) y
        have hml := Nat.mod_lt (2 * r + b) hy0
        clear hdb
        generalize (2 * r + b) / y = D2 at *
        generalize (2 * r + b) % y = M2 at *
        rw [wrap_in (i := (D2 : Int)) (by omega) (by omega), ← Int.natCast_add, wrap_in (by omega) (by omega)]
        refine ih _ _ (by omega) ?_ hml
        rw [hp, c, Nat.add_mul, Nat.add_mul, Nat.mul_assoc, Nat.mul_assoc, Nat.one_mul, ← h, Nat.mul_comm D2 y]
        generalize q * y = A at *
        omega
      · have c0 : a / 2 ^ d % 2 = 0 := by omega
        refine Ev.neg (by rw [c0]; simp) (Ev.neg (by omega) ?_)
        rw [← Int.ofNat_tdiv, ← Int.ofNat_tmod]
        have hm := Nat.div_add_mod (2 * r) y
        have hml := Nat.mod_lt (2 * r) hy0
        clear hdb2
        generalize 2 * r / y = D2 at *
        generalize 2 * r % y = M2 at *
        rw [wrap_in (i := (D2 : Int)) (by omega) (by omega), ← Int.natCast_add, wrap_in (by omega) (by omega)]
        refine ih _ _ (by omega) ?_ hml
        rw [hp, c0, Nat.add_zero, Nat.add_mul, Nat.mul_assoc, Nat.mul_assoc, ← h, Nat.mul_comm D2 y]
        generalize q * y = A at *
        omega
  have := go 51 0 0 (by omega) (by rw [Nat.div_eq_of_lt (by omega)]; simp) hy0
  exact this
end Go.Proofs.Ytbadelcnaeijkaa.Quo
end
section
namespace Go.Proofs.Ytbadelcnaeijkaa.Quo
open Go.RowKit Go.Proofs.Ytbadelcnaeijkaa.Q Go.Proofs.YtbadelcnaeijkaaW.PrintWords Go.Proofs.YtbadelcnaeijkaaW.PrintMore Go.Proofs.YtbadelcnaeijkaaW.EvMore
def row (n : Nat) (f : Nat → Int) : List Int := (List.range n).map f
theorem row_length (n : Nat) (f : Nat → Int) : (row n f).length = n := by simp [row]
theorem row_rd {n : Nat} {f : Nat → Int} {i : Nat} (h : i < n) : rd (row n f) (i : Int) = f i := by
  rw [rdI (by rw [row_length]; exact h)]
  simp [row]
theorem row_set {n : Nat} {f : Nat → Int} {i : Nat} (v : Int) : (row n f).set i v = row n (fun x => if x = i then v else f x) := by
  apply List.ext_getElem
  · simp [row]
  · intro j h1 h2
    have hj : j < n := by rw [row_length] at h2; exact h2
    rw [List.getElem_set]
    by_cases e : i = j
    · subst e; simp [row]
    · rw [if_neg e]
      simp [row]
      exact fun q => absurd q.symm e
theorem row_congr {n : Nat} {f g : Nat → Int} (h : ∀ i, i < n → f i = g i) : row n f = row n g := by
  unfold row
  exact List.map_congr_left fun i hi => h i (List.mem_range.1 hi)
theorem order_ex (R : Nat → Int) (n : Nat) : ∃ d' : Array Int, ((∀ s, s < n → ∃ j : Nat, j < n ∧ d'[s]! = (j : Int) ∧ rk n R j = s) ∧ (∀ j, j < n → ∃ s, s < n ∧ d'[s]! = (j : Int))) ∧ SrtT (TK fun i => R i.toNat) 0 n d' := by
  obtain ⟨P, S⟩ := Sort.insertionSort_holds (lt := ltK fun i => R i.toNat) (swo_ltK _) (idRow n) 0 n (by omega) (by rw [idRow_size]; exact Nat.le_refl _)
  have S' : SrtT (TK fun i => R i.toNat) 0 n (Sort.insertionSort (ltK fun i => R i.toNat) (idRow n) 0 n) := fun p q h1 h2 h3 => S p q h1 h2 h3
  exact ⟨_, rank_at R n (idRow n) _ (idRow_size n) (fun p hp => idRow_at n p hp) P S', S'⟩
theorem rk_at (R : Nat → Int) (n k : Nat) (hk : k < n) : ∃ j, j < n ∧ rk n R j = k ∧ ∀ i, i < n → i ≠ j → (rk n R i < k ∨ (k < rk n R i ∧ (R i < R j ∨ (R i = R j ∧ j < i)))) := by
  obtain ⟨d, ⟨h1, h2⟩, hs⟩ := order_ex R n
  obtain ⟨j, hj, ej, rj⟩ := h1 k hk
  refine ⟨j, hj, rj, fun i hi hne => ?_⟩
  obtain ⟨s, hs2, es⟩ := h2 i hi
  obtain ⟨i2, _, ei, ri⟩ := h1 s hs2
  have hii : i2 = i := by omega
  subst hii
  rw [ri]
  have hsk : s ≠ k := fun e => hne (by subst e; omega)
  by_cases c : s < k
  · exact .inl c
  · refine .inr ⟨by omega, ?_⟩
    have := hs k s (by omega) (by omega) hs2
    unfold TK at this
    rw [ej, es] at this
    simp only [ltK, decide_eq_false_iff_not, Int.toNat_natCast] at this
    omega
section
variable (n : Nat) (R p : Nat → Int)
def outK (k : Nat) : List Int := row n fun j => p j + if rk n R j < k then 1 else 0
def leftK (k : Nat) : List Int := row n fun j => if rk n R j < k then -1 else R j
theorem pick_ev (hn : n ≤ 40) (hR : ∀ j, j < n → 0 ≤ R j ∧ R j ≤ 1125899906842624) (hp : ∀ j, j < n → 0 ≤ p j ∧ p j ≤ 1125899906842624) : ∀ (m k : Nat), k + m ≤ n → (m = 0 ∨ k + m < n ∨ True) →
    Ev (fun f => tapearchiveref32_Share.l2 f (outK n R p k) (leftK n R k) (m : Int)) (outK n R p (k + m), 0) := by
  intro m
  induction m with
  | zero =>
    intro k _ _
    refine Ev.next (fun f => by rw [tapearchiveref32_Share.l2]) (Ev.neg (by omega) (Ev.done fun _ => ?_))
    rfl
  | succ m ih =>
    intro k hk _
    obtain ⟨j, hj, rj, hmax⟩ := rk_at R n k (by omega)
    have hout : (outK n R p k).length = n := row_length _ _
    have hleft : (leftK n R k).length = n := row_length _ _
    have hL : ∀ i, i < n → rd (leftK n R k) (i : Int) = if rk n R i < k then -1 else R i := fun i hi => row_rd hi
    have hLj : rd (leftK n R k) (j : Int) = R j := by rw [hL j hj, if_neg (by omega)]
    have hle : ∀ i, i < n → rd (leftK n R k) (i : Int) ≤ rd (leftK n R k) (j : Int) := fun i hi => by
      rw [hLj, hL i hi]
      have := hR j hj
      by_cases e : i = j
      · subst e; rw [if_neg (by omega)]; omega
      · rcases hmax i hi e with h | ⟨h, h2⟩
        · rw [if_pos h]; omega
        · rw [if_neg (by omega)]; omega
    have hlt : ∀ i, i < j → rd (leftK n R k) (i : Int) < rd (leftK n R k) (j : Int) := fun i hi => by
      rw [hLj, hL i (by omega)]
      have := hR j hj
      rcases hmax i (by omega) (by omega) with h | ⟨h, h2⟩
      · rw [if_pos h]; omega
      · rw [if_neg (by omega)]; omega
    refine Ev.next (fun f => by rw [tapearchiveref32_Share.l2]) (Ev.pos (by omega) ?_)
    have fin : Ev (fun f => tapearchiveref32_Share.l2 f ((outK n R p k).set ((j : Int).toNat) (wrap64 ((rd (outK n R p k) (j : Int)) + 1))) ((leftK n R k).set ((j : Int).toNat) (-1)) (wrap64 (((m + 1 : Nat) : Int) - 1))) (outK n R p (k + (m + 1)), 0) := by
      have e1 : (leftK n R k).set ((j : Int).toNat) (-1) = leftK n R (k + 1) := by
        rw [Int.toNat_natCast]
        unfold leftK
        rw [row_set]
        refine row_congr fun i hi => ?_
        by_cases e : i = j
        · subst e; rw [if_pos rfl, if_pos (by omega)]
        · rw [if_neg e]
          rcases hmax i hi e with h | ⟨h, h2⟩
          · rw [if_pos h, if_pos (by omega)]
          · rw [if_neg (by omega), if_neg (by omega)]
      have e2 : (outK n R p k).set ((j : Int).toNat) (wrap64 ((rd (outK n R p k) (j : Int)) + 1)) = outK n R p (k + 1) := by
        have hv : rd (outK n R p k) (j : Int) = p j := by
          unfold outK
          rw [row_rd hj, if_neg (by omega), Int.add_zero]
        have hpj := hp j hj
        rw [hv, wrap_in (by omega) (by omega), Int.toNat_natCast]
        unfold outK
        rw [row_set]
        refine row_congr fun i hi => ?_
        by_cases e : i = j
        · subst e; rw [if_pos rfl, if_pos (by omega)]
        · rw [if_neg e]
          rcases hmax i hi e with h | ⟨h, h2⟩
          · rw [if_pos h, if_pos (by omega)]
          · rw [if_neg (by omega), if_neg (by omega)]
      rw [e1, e2, wrap_in (by omega) (by omega), show ((m + 1 : Nat) : Int) - 1 = (m : Int) by omega]
      have := ih (k + 1) (by omega) (.inr (.inr trivial))
      rwa [show k + 1 + m = k + (m + 1) by omega] at this
    have go : ∀ (d i b : Nat), i + d = n → b < n → (b < i ∨ b = 0) → (∀ x, x < i → rd (leftK n R k) (x : Int) ≤ rd (leftK n R k) (b : Int)) → (∀ x, x < b → rd (leftK n R k) (x : Int) < rd (leftK n R k) (b : Int)) →
        Ev (fun f => tapearchiveref32_Share.l3 f (outK n R p k) (leftK n R k) ((m + 1 : Nat) : Int) (b : Int) (i : Int)) (outK n R p (k + (m + 1)), 0) := by
      intro d
      induction d with
      | zero =>
        intro i b hi hb _ hle2 hlt2
        have hbj : b = j := by
          by_cases c : b < j
          · have h1 := hlt b c
            have h2 := hle2 j (by omega)
            omega
          · by_cases c2 : j < b
            · have h1 := hlt2 j c2
              have h2 := hle b hb
              omega
            · omega
        subst hbj
        refine Ev.next (fun f => by rw [tapearchiveref32_Share.l3]) (Ev.neg (by omega) (Ev.pos (by omega) (Ev.pos (by omega) (Ev.pos (by omega) ?_))))
        exact fin
      | succ d ihd =>
        intro i b hi hb hbi hle2 hlt2
        refine Ev.next (fun f => by rw [tapearchiveref32_Share.l3]) (Ev.pos (by omega) (Ev.pos (by omega) (Ev.pos (by omega) (Ev.pos (by omega) ?_))))
        rw [wrap_in (by omega) (by omega), cast_succ]
        by_cases c : rd (leftK n R k) (i : Int) > rd (leftK n R k) (b : Int)
        · refine Ev.pos c (ihd (i + 1) i (by omega) (by omega) (.inl (by omega)) (fun x hx => ?_) (fun x hx => ?_))
          · by_cases e : x = i
            · subst e; omega
            · have := hle2 x (by omega)
              omega
          · have := hle2 x hx
            omega
        · refine Ev.neg c (ihd (i + 1) b (by omega) hb (by omega) (fun x hx => ?_) hlt2)
          by_cases e : x = i
          · subst e; omega
          · exact hle2 x (by omega)
    exact go n 0 0 (by omega) (by omega) (.inr rfl) (fun x hx => by omega) (fun x hx => by omega)
end
end Go.Proofs.Ytbadelcnaeijkaa.Quo
end
section
namespace Go.Proofs.Ytbadelcnaeijkaa.Quo
open Go.RowKit Go.Proofs.Ytbadelcnaeijkaa.Q Go.Proofs.YtbadelcnaeijkaaW.PrintWords Go.Proofs.YtbadelcnaeijkaaW.PrintMore Go.Proofs.YtbadelcnaeijkaaW.EvMore
def shareR (t : Int) (l : List Int) (r : Int × Bool) : List Int × Int :=
  if num t = true ∧ r.2 = true then
    if r.1 = 0 then (if t = 0 then (List.replicate l.length 0, 0) else ([], 8)) else (shareL t r.1 l, 0)
  else ([], 7)
theorem shareS_eq (t : Int) (l : List Int) : shareS t l = shareR t l (sumG 0 l) := rfl
theorem row_replicate (n : Nat) : List.replicate n (0 : Int) = row n (fun _ => 0) := by
  unfold row
  apply List.ext_getElem
  · simp
  · intro i h1 h2
    simp
section
variable (T A : Nat) (l : List Int) (hn : l.length ≤ 40) (hT : T ≤ 1125899906842624) (hA : 0 < A) (hA2 : A ≤ 1125899906842624) (hs : l.sum = (A : Int)) (hx : ∀ x ∈ l, num x = true)
include hn hT hA hA2 hs hx
theorem refMain_ev : Ev (fun k => tapearchiveref32_Share.l1 k (T : Int) l (A : Int) (List.replicate l.length 0) (List.replicate l.length 0) (T : Int) 0) (shareL T A l, 0) := by
  have hle : ∀ x ∈ l, 0 ≤ x ∧ x ≤ (A : Int) := fun x h => by
    have h1 := (num_iff x).1 (hx x h)
    have h2 := le_sum_of_mem l (fun y hy => ((num_iff y).1 (hx y hy)).1) x h
    omega
  have hpos : 0 < l.length := by
    cases l with
    | nil => simp at hs; omega
    | cons x xs => simp
  obtain ⟨m0, m1⟩ := miss_bd T A l (by omega) hs hpos
  obtain ⟨m, hm⟩ : ∃ m : Nat, (T : Int) - parts T A l l.length = m := ⟨((T : Int) - parts T A l l.length).toNat, by omega⟩
  have hp : ∀ j, j < l.length → 0 ≤ (T : Int) * l[j]! / A ∧ (T : Int) * l[j]! / A ≤ 1125899906842624 := fun j hj => by
    have h1 := hle l[j]! (by rw [getElem!_pos l j hj]; exact List.getElem_mem hj)
    have e1 : 0 ≤ (T : Int) * l[j]! / A := Int.ediv_nonneg (Int.mul_nonneg (by omega) h1.1) (by omega)
    have e2 : (T : Int) * l[j]! / A ≤ T := Int.ediv_le_of_le_mul (by omega) (Int.mul_le_mul_of_nonneg_left h1.2 (by omega))
    omega
  have hR : ∀ j, j < l.length → 0 ≤ (T : Int) * l[j]! % A ∧ (T : Int) * l[j]! % A ≤ 1125899906842624 := fun j hj => by
    have e1 := Int.emod_nonneg ((T : Int) * l[j]!) (show (A : Int) ≠ 0 by omega)
    have e2 := Int.emod_lt_of_pos ((T : Int) * l[j]!) (show (0 : Int) < A by omega)
    omega
  have fin : Ev (fun k => tapearchiveref32_Share.j4 k (row l.length fun j => (T : Int) * l[j]! / A) (row l.length fun j => (T : Int) * l[j]! % A) (m : Int)) (shareL T A l, 0) := by
    refine Ev.next (fun k => by rw [tapearchiveref32_Share.j4]) ?_
    have := pick_ev l.length (fun j => (T : Int) * l[j]! % A) (fun j => (T : Int) * l[j]! / A) hn hR hp m 0 (by omega) (.inr (.inr trivial))
    have e1 : outK l.length (fun j => (T : Int) * l[j]! % A) (fun j => (T : Int) * l[j]! / A) 0 = row l.length fun j => (T : Int) * l[j]! / A := row_congr fun i hi => by simp
    have e2 : leftK l.length (fun j => (T : Int) * l[j]! % A) 0 = row l.length fun j => (T : Int) * l[j]! % A := row_congr fun i hi => by simp
    rw [e1, e2, Nat.zero_add] at this
    have e3 : outK l.length (fun j => (T : Int) * l[j]! % A) (fun j => (T : Int) * l[j]! / A) m = shareL T A l := by
      unfold outK shareL row
      rw [hm, Int.toNat_natCast]
    rw [e3] at this
    exact this
  have go : ∀ (d i : Nat), i + d = l.length → Ev (fun k => tapearchiveref32_Share.l1 k (T : Int) l (A : Int) (row l.length fun j => if j < i then (T : Int) * l[j]! / A else 0) (row l.length fun j => if j < i then (T : Int) * l[j]! % A else 0) ((T : Int) - parts T A l i) (i : Int)) (shareL T A l, 0) := by
    intro d
    induction d with
    | zero =>
      intro i hi
      obtain rfl : i = l.length := by omega
      have q1 : (row l.length fun j => if j < l.length then (T : Int) * l[j]! / A else 0) = row l.length fun j => (T : Int) * l[j]! / A := row_congr fun j hj => by rw [if_pos hj]
      have q2 : (row l.length fun j => if j < l.length then (T : Int) * l[j]! % A else 0) = row l.length fun j => (T : Int) * l[j]! % A := row_congr fun j hj => by rw [if_pos hj]
      rw [q1, q2, hm]
      exact Ev.next (fun k => by rw [tapearchiveref32_Share.l1]) (Ev.neg (by omega) fin)
    | succ d ih =>
      intro i hi
      have h : i < l.length := by omega
      have hxi := hle l[i] (List.getElem_mem h)
      obtain ⟨X, hX⟩ : ∃ X : Nat, l[i] = (X : Int) := ⟨l[i].toNat, by omega⟩
      have hX2 : l[i]! = (X : Int) := by rw [getElem!_pos l i h, hX]
      refine Ev.next (fun k => by rw [tapearchiveref32_Share.l1]) (Ev.pos (by omega) (Ev.pos (by omega) (Ev.pos (by omega) ?_)))
      rw [rdI h, hX]
      refine Ev.both (divide_ev T X A hT (by omega) hA2 hA) ?_
      refine Ev.pos (by rw [row_length]; omega) ?_
      simp only [Option.bind_some]
      refine Ev.pos (by rw [row_length]; omega) ?_
      have eP : ((T * X / A : Nat) : Int) = (T : Int) * l[i]! / A := by rw [hX2]; push_cast; rfl
      have eR : ((T * X % A : Nat) : Int) = (T : Int) * l[i]! % A := by rw [hX2]; push_cast; rfl
      have hpb := parts_bd T A (by omega) (by omega) l hle i (by omega)
      have hpi := hp i h
      rw [Int.toNat_natCast, row_set, row_set, row_rd h, if_pos rfl, eP, eR, wrap_in (i := (i : Int) + 1) (by omega) (by omega), cast_succ, wrap_in (by omega) (by omega)]
      have e1 : (row l.length fun x => if x = i then (T : Int) * l[i]! / A else if x < i then (T : Int) * l[x]! / A else 0) = row l.length fun j => if j < i + 1 then (T : Int) * l[j]! / A else 0 := row_congr fun j hj => by
        by_cases e : j = i
        · subst e; rw [if_pos rfl, if_pos (by omega)]
        · rw [if_neg e]
          by_cases c : j < i
          · rw [if_pos c, if_pos (by omega)]
          · rw [if_neg c, if_neg (by omega)]
      have e2 : (row l.length fun x => if x = i then (T : Int) * l[i]! % A else if x < i then (T : Int) * l[x]! % A else 0) = row l.length fun j => if j < i + 1 then (T : Int) * l[j]! % A else 0 := row_congr fun j hj => by
        by_cases e : j = i
        · subst e; rw [if_pos rfl, if_pos (by omega)]
        · rw [if_neg e]
          by_cases c : j < i
          · rw [if_pos c, if_pos (by omega)]
          · rw [if_neg c, if_neg (by omega)]
      rw [e1, e2]
      have := ih (i + 1) (by omega)
      rw [parts_step T A l i h, ← Int.sub_sub] at this
      exact this
  have := go l.length 0 (by omega)
  rw [row_replicate]
  have e0 : (row l.length fun j => if j < 0 then (T : Int) * l[j]! / A else 0) = row l.length (fun _ => 0) := row_congr fun j _ => by simp
  have e1 : (row l.length fun j => if j < 0 then (T : Int) * l[j]! % A else 0) = row l.length (fun _ => 0) := row_congr fun j _ => by simp
  rw [e0, e1, show parts T A l 0 = 0 by simp [parts], Int.sub_zero] at this
  exact this
end
theorem refShare_ev (t : Int) (l : List Int) (hn : l.length ≤ 40) : Ev (fun k => tapearchiveref32_Share.f k t l) (shareS t l) := by
  unfold tapearchiveref32_Share.f
  rw [shareS_eq]
  have hj1 : ∀ (s : Int), (num t = true → (s = 0 → t = 0 → True) ∧ ∀ hs : num s = true, s = l.sum → (∀ x ∈ l, num x = true) → True) → num s = true → s = l.sum → (∀ x ∈ l, num x = true) →
      Ev (fun k => if t < 0 then tapearchiveref32_Share.j1 k t l s true else tapearchiveref32_Share.j1 k t l s (decide (t > 1125899906842624))) (shareR t l (s, true)) := by
    intro s _ hsn hs hx
    have hsb := (num_iff s).1 hsn
    unfold shareR
    by_cases c1 : t < 0
    · rw [if_neg (fun h => by have := (num_iff t).1 h.1; omega)]
      exact Ev.pos c1 (Ev.next (fun k => by rw [tapearchiveref32_Share.j1]) (Ev.pos rfl (Ev.done fun _ => rfl)))
    · refine Ev.neg c1 ?_
      by_cases c2 : t > 1125899906842624
      · rw [decide_eq_true c2, if_neg (fun h => by have := (num_iff t).1 h.1; omega)]
        exact Ev.next (fun k => by rw [tapearchiveref32_Share.j1]) (Ev.pos rfl (Ev.done fun _ => rfl))
      · rw [decide_eq_false c2, if_pos ⟨(num_iff t).2 ⟨by omega, by omega⟩, rfl⟩]
        refine Ev.next (fun k => by rw [tapearchiveref32_Share.j1]) (Ev.neg (by simp) ?_)
        have hmake : ∀ r, Ev (fun k => tapearchiveref32_Share.l1 k t l s (List.replicate l.length 0) (List.replicate l.length 0) t 0) r → Ev (fun k => tapearchiveref32_Share.j2 k t l s false) r := fun r hr => by
          refine Ev.next (fun k => by rw [tapearchiveref32_Share.j2]) (Ev.neg (by simp) (Ev.pos (by omega) ?_))
          rw [Int.toNat_natCast]
          exact Ev.pos (by omega) hr
        by_cases c3 : s = 0
        · refine Ev.pos c3 ?_
          rw [if_pos c3]
          by_cases c4 : t = 0
          · rw [if_pos c4, show (t != 0) = false by rw [c4]; rfl]
            refine hmake _ ?_
            have hl2 : Ev (fun k => tapearchiveref32_Share.j4 k (List.replicate l.length 0) (List.replicate l.length 0) t) (List.replicate l.length 0, 0) :=
              Ev.next (fun k => by rw [tapearchiveref32_Share.j4]) (Ev.next (fun k => by rw [tapearchiveref32_Share.l2]) (Ev.neg (by omega) (Ev.done fun _ => rfl)))
            by_cases c5 : (0 : Int) < (l.length : Int)
            · exact Ev.next (fun k => by rw [tapearchiveref32_Share.l1]) (Ev.pos c5 (Ev.neg (by omega) hl2))
            · exact Ev.next (fun k => by rw [tapearchiveref32_Share.l1]) (Ev.neg c5 hl2)
          · rw [if_neg c4, show (t != 0) = true by simp [c4]]
            exact Ev.next (fun k => by rw [tapearchiveref32_Share.j2]) (Ev.pos rfl (Ev.done fun _ => rfl))
        · refine Ev.neg c3 ?_
          rw [if_neg c3]
          refine hmake _ ?_
          obtain ⟨T, rfl⟩ : ∃ T : Nat, t = T := ⟨t.toNat, by omega⟩
          obtain ⟨A, rfl⟩ : ∃ A : Nat, s = A := ⟨s.toNat, by omega⟩
          exact refMain_ev T A l hn (by omega) (by omega) (by omega) hs.symm hx
  have go : ∀ (d i : Nat) (s : Int), i + d = l.length → num s = true → s = (l.take i).sum → (∀ x ∈ l.take i, num x = true) → Ev (fun k => tapearchiveref32_Share.l0 k t l s (i : Int)) (shareR t l (sumG s (l.drop i))) := by
    intro d
    induction d with
    | zero =>
      intro i s hi hsn hs hx
      rw [List.take_of_length_le (by omega)] at hs hx
      rw [List.drop_of_length_le (by omega)]
      exact Ev.next (fun k => by rw [tapearchiveref32_Share.l0]) (Ev.neg (by omega) (hj1 s (fun _ => ⟨fun _ _ => trivial, fun _ _ _ => trivial⟩) hsn hs hx))
    | succ d ih =>
      intro i s hi hsn hs hx
      have h : i < l.length := by omega
      have hsb := (num_iff s).1 hsn
      rw [List.drop_eq_getElem_cons h]
      unfold sumG
      have bad : ∀ c : ¬ (num l[i] = true ∧ num (s + l[i]) = true), shareR t l (if num l[i] = true ∧ num (s + l[i]) = true then sumG (s + l[i]) (l.drop (i + 1)) else (0, false)) = ([], 7) := fun c => by
        rw [if_neg c]
        unfold shareR
        rw [if_neg (fun q => by cases q.2)]
      refine Ev.next (fun k => by rw [tapearchiveref32_Share.l0]) (Ev.pos (by omega) (Ev.pos (by omega) ?_))
      rw [rdI h]
      by_cases c1 : l[i] < 0
      · rw [bad (fun q => by have := (num_iff _).1 q.1; omega)]
        exact Ev.pos c1 (Ev.done fun _ => rfl)
      · refine Ev.neg c1 ?_
        by_cases c2 : l[i] > 1125899906842624
        · rw [bad (fun q => by have := (num_iff _).1 q.1; omega)]
          exact Ev.pos c2 (Ev.done fun _ => rfl)
        · refine Ev.neg c2 ?_
          rw [wrap_in (by omega) (by omega)]
          by_cases c3 : s + l[i] > 1125899906842624
          · rw [bad (fun q => by have := (num_iff _).1 q.2; omega)]
            exact Ev.pos c3 (Ev.done fun _ => rfl)
          · refine Ev.neg c3 ?_
            have hni : num l[i] = true := (num_iff _).2 ⟨by omega, by omega⟩
            have hns : num (s + l[i]) = true := (num_iff _).2 ⟨by omega, by omega⟩
            rw [if_pos ⟨hni, hns⟩, wrap_in (by omega) (by omega), cast_succ]
            refine ih (i + 1) (s + l[i]) (by omega) hns ?_ (fun x hm => ?_)
            · rw [take_sum_step l i h, getElem!_pos l i h, hs]
            · rw [List.take_succ_eq_append_getElem h] at hm
              rcases List.mem_append.1 hm with hm | hm
              · exact hx x hm
              · rw [List.mem_singleton.1 hm]; exact hni
  exact go l.length 0 0 (by omega) (by decide) (by simp) (fun x hm => by simp at hm)
end Go.Proofs.Ytbadelcnaeijkaa.Quo
end
section
namespace Go.Proofs.Ytbadelcnaeijkaa.Quo
open Go.RowKit Go.Proofs.Ytbadelcnaeijkaa.Q Go.Proofs.YtbadelcnaeijkaaW.PrintWords Go.Proofs.YtbadelcnaeijkaaW.PrintMore Go.Proofs.YtbadelcnaeijkaaW.EvMore
theorem share_f (t : Int) (l : List Int) (h : l.length ≤ 40) : quota_Share.f t l = some (shareS t l) := if_pos h
theorem shareS_length (t : Int) (l : List Int) : (shareS t l).1.length ≤ l.length := by
  unfold shareS
  split
  · split
    · split <;> simp
    · simp [shareL]
  · simp
theorem shares_j0 (t : Int) (l : List Int) (h : l.length ≤ 40) : Ev (fun k => tapearchivelaw32_QuotaShares.j0 k t l) true := by
  refine Ev.next (fun k => by rw [tapearchivelaw32_QuotaShares.j0]) (Ev.bindS (share_f t l h) (Ev.both (refShare_ev t l h) (Ev.both (same_ev (shareS t l).1 (by have := shareS_length t l; omega)) ?_)))
  exact Ev.pos rfl (Ev.pos rfl (Ev.both awake_ev (Ev.done fun _ => rfl)))
theorem shares : Go.Proofs.Ytbadelcnaeijkaa.SQuotaShares.Pure := by
  intro t l _ _
  refine Ev.get (f := fun k => tapearchivelaw32_QuotaShares.f k t l) ?_
  unfold tapearchivelaw32_QuotaShares.f
  by_cases c : (l.length : Int) > 40
  · exact Ev.pos c (Ev.pos (by omega) (shares_j0 t (l.take 40) (by rw [List.length_take]; omega)))
  · exact Ev.neg c (shares_j0 t l (by omega))
end Go.Proofs.Ytbadelcnaeijkaa.Quo
namespace Go.Proofs.Ytbadelcnaeijkaa.Pure
theorem QuotaShares : Go.Proofs.Ytbadelcnaeijkaa.SQuotaShares.Pure := Quo.shares
end Go.Proofs.Ytbadelcnaeijkaa.Pure
end
