/-
  No cell of these rows narrows 'for every input' (looked for: loops, veiled, ifaces, maps, wideKeys, modest, calm, conditions, laid).
  DERIVED. THE GIVEN ROWS OF THIS SEAT. 6 by the template 'for every input the law returns true; each argument reads behind the call as it read before'; 0 by the template 'total and deterministic' (their statements: YtbadelcnaeijkaaTotals.lean).
  GIVEN WITH THE SEED: the statements are not yours to turn. If you find one false, say at which input.
  Laid BY PROGRAM, IN A SANDBOX (cutbox-rows.mjs): the forced cells as the released guide's own fill.sh prints them over the translation e56553e973e7ce7d… (all of the seat's roots in one cut). By AI agents, Wed Nov 11 2026. No macro, syntax, notation, axiom, sorry.
-/
import Derived.Test.YtbadelcnaeijkaaChecked
import GoSem.Claim
import GoSem.ClaimJoined
import GoSem.ClaimMapViews
import Derived.JoinedTies
import Derived.KernelRfl
namespace Go.Proofs.Ytbadelcnaeijkaa
/- THE CELL 'sum', in the pinned program and in every row, IS THE sha256 OF THE DUMP (.gsa) THAT YtbadelcnaeijkaaProg.lean LOADS. Nothing in Lean hashes anything: it is a label: what it is worth is what the hold of that sum in a sandbox is worth. -/
noncomputable def Try.pinned : Pinned := { name := "ytbadelcnaeijkaa", sum := "e56553e973e7ce7dfa42f2c54eeac621dc5ebc31eb7cc4ea320888f37349da16", checked := Try.checked }
namespace Rows
def none {H : Type} : Left H := { results := [], args := [] }

/-- 'tapearchivelaw32.QuotaAdmits': WHATEVER THE INPUT: true; the input reads as it did. -/
def quotaAdmitsSpec : ChangeSpec := { name := "quotaAdmits", fn := fun _ => fun
  | [d1, d2, d3] => { results := [.lit (.bool true)], args := [d1, d2, d3] }
  | _ => none }
def quotaAdmitsRow : OpenClaim := { program := "ytbadelcnaeijkaa", sum := "e56553e973e7ce7dfa42f2c54eeac621dc5ebc31eb7cc4ea320888f37349da16", func := "tapearchive/tapearchivelaw32.QuotaAdmits", spec := "quotaAdmits", unfollowed := true, recurses := true, named := ["math/bits.divideError", "math/bits.overflowError"], apart := false }
def QuotaAdmitsSaid : Prop := quotaAdmitsRow.holds Try.pinned (OpenSpec.ofChange quotaAdmitsSpec)

/-- ITS FALSE NEIGHBOUR: 'it returns false'. Refute it at one input. -/
def quotaAdmitsWrong : ChangeSpec := { name := "quotaAdmits", fn := fun _ => fun
  | [d1, d2, d3] => { results := [.lit (.bool false)], args := [d1, d2, d3] }
  | _ => none }
def QuotaAdmitsWrongFalsely : Prop := quotaAdmitsRow.holds Try.pinned (OpenSpec.ofChange quotaAdmitsWrong)

/-- 'tapearchivelaw32.QuotaShares': WHATEVER THE INPUT: true; the input reads as it did. -/
def quotaSharesSpec : ChangeSpec := { name := "quotaShares", fn := fun _ => fun
  | [d1, d2] => { results := [.lit (.bool true)], args := [d1, d2] }
  | _ => none }
def quotaSharesRow : OpenClaim := { program := "ytbadelcnaeijkaa", sum := "e56553e973e7ce7dfa42f2c54eeac621dc5ebc31eb7cc4ea320888f37349da16", func := "tapearchive/tapearchivelaw32.QuotaShares", spec := "quotaShares", unfollowed := true, recurses := true, named := ["math/bits.divideError", "math/bits.overflowError"], apart := false }
def QuotaSharesSaid : Prop := quotaSharesRow.holds Try.pinned (OpenSpec.ofChange quotaSharesSpec)

/-- ITS FALSE NEIGHBOUR: 'it returns false'. Refute it at one input. -/
def quotaSharesWrong : ChangeSpec := { name := "quotaShares", fn := fun _ => fun
  | [d1, d2] => { results := [.lit (.bool false)], args := [d1, d2] }
  | _ => none }
def QuotaSharesWrongFalsely : Prop := quotaSharesRow.holds Try.pinned (OpenSpec.ofChange quotaSharesWrong)

/-- 'tapearchivelaw32.QuotaSums': WHATEVER THE INPUT: true; the input reads as it did. -/
def quotaSumsSpec : ChangeSpec := { name := "quotaSums", fn := fun _ => fun
  | [d1, d2] => { results := [.lit (.bool true)], args := [d1, d2] }
  | _ => none }
def quotaSumsRow : OpenClaim := { program := "ytbadelcnaeijkaa", sum := "e56553e973e7ce7dfa42f2c54eeac621dc5ebc31eb7cc4ea320888f37349da16", func := "tapearchive/tapearchivelaw32.QuotaSums", spec := "quotaSums", unfollowed := true, recurses := true, named := ["math/bits.divideError", "math/bits.overflowError"], apart := false }
def QuotaSumsSaid : Prop := quotaSumsRow.holds Try.pinned (OpenSpec.ofChange quotaSumsSpec)

/-- ITS FALSE NEIGHBOUR: 'it returns false'. Refute it at one input. -/
def quotaSumsWrong : ChangeSpec := { name := "quotaSums", fn := fun _ => fun
  | [d1, d2] => { results := [.lit (.bool false)], args := [d1, d2] }
  | _ => none }
def QuotaSumsWrongFalsely : Prop := quotaSumsRow.holds Try.pinned (OpenSpec.ofChange quotaSumsWrong)

/-- 'tapearchivelaw32.QuotaUses': WHATEVER THE INPUT: true; the input reads as it did. -/
def quotaUsesSpec : ChangeSpec := { name := "quotaUses", fn := fun _ => fun
  | [d1, d2] => { results := [.lit (.bool true)], args := [d1, d2] }
  | _ => none }
def quotaUsesRow : OpenClaim := { program := "ytbadelcnaeijkaa", sum := "e56553e973e7ce7dfa42f2c54eeac621dc5ebc31eb7cc4ea320888f37349da16", func := "tapearchive/tapearchivelaw32.QuotaUses", spec := "quotaUses", unfollowed := true, recurses := true, named := ["math/bits.divideError", "math/bits.overflowError"], apart := false }
def QuotaUsesSaid : Prop := quotaUsesRow.holds Try.pinned (OpenSpec.ofChange quotaUsesSpec)

/-- ITS FALSE NEIGHBOUR: 'it returns false'. Refute it at one input. -/
def quotaUsesWrong : ChangeSpec := { name := "quotaUses", fn := fun _ => fun
  | [d1, d2] => { results := [.lit (.bool false)], args := [d1, d2] }
  | _ => none }
def QuotaUsesWrongFalsely : Prop := quotaUsesRow.holds Try.pinned (OpenSpec.ofChange quotaUsesWrong)

/-- 'tapearchivelaw32.QuotaExact': WHATEVER THE INPUT: true; the input reads as it did. -/
def quotaExactSpec : ChangeSpec := { name := "quotaExact", fn := fun _ => fun
  | [d1, d2, d3] => { results := [.lit (.bool true)], args := [d1, d2, d3] }
  | _ => none }
def quotaExactRow : OpenClaim := { program := "ytbadelcnaeijkaa", sum := "e56553e973e7ce7dfa42f2c54eeac621dc5ebc31eb7cc4ea320888f37349da16", func := "tapearchive/tapearchivelaw32.QuotaExact", spec := "quotaExact", unfollowed := true, recurses := true, named := ["math/bits.divideError", "math/bits.overflowError"], apart := false }
def QuotaExactSaid : Prop := quotaExactRow.holds Try.pinned (OpenSpec.ofChange quotaExactSpec)

/-- ITS FALSE NEIGHBOUR: 'it returns false'. Refute it at one input. -/
def quotaExactWrong : ChangeSpec := { name := "quotaExact", fn := fun _ => fun
  | [d1, d2, d3] => { results := [.lit (.bool false)], args := [d1, d2, d3] }
  | _ => none }
def QuotaExactWrongFalsely : Prop := quotaExactRow.holds Try.pinned (OpenSpec.ofChange quotaExactWrong)

/-- 'tapearchivelaw32.QuotaGrows': WHATEVER THE INPUT: true; the input reads as it did. -/
def quotaGrowsSpec : ChangeSpec := { name := "quotaGrows", fn := fun _ => fun
  | [d1, d2, d3, d4] => { results := [.lit (.bool true)], args := [d1, d2, d3, d4] }
  | _ => none }
def quotaGrowsRow : OpenClaim := { program := "ytbadelcnaeijkaa", sum := "e56553e973e7ce7dfa42f2c54eeac621dc5ebc31eb7cc4ea320888f37349da16", func := "tapearchive/tapearchivelaw32.QuotaGrows", spec := "quotaGrows", unfollowed := true, recurses := true, named := ["math/bits.divideError", "math/bits.overflowError"], apart := false }
def QuotaGrowsSaid : Prop := quotaGrowsRow.holds Try.pinned (OpenSpec.ofChange quotaGrowsSpec)

/-- ITS FALSE NEIGHBOUR: 'it returns false'. Refute it at one input. -/
def quotaGrowsWrong : ChangeSpec := { name := "quotaGrows", fn := fun _ => fun
  | [d1, d2, d3, d4] => { results := [.lit (.bool false)], args := [d1, d2, d3, d4] }
  | _ => none }
def QuotaGrowsWrongFalsely : Prop := quotaGrowsRow.holds Try.pinned (OpenSpec.ofChange quotaGrowsWrong)

/- THE SECOND FORM. 'bulk': how many values and letters a reading holds, each counted each time it is reached (what is shared counts as often as it is met; a slice's spare places count too). A statement '..UptoSaid' is the law's where the arguments, and the package variables that the reading takes, are together of bulk at most 1048576: NARROWER than '..Said'. Prove '..Said' where nothing that the law and all that it calls make is longer than what came in: it says more and counts as full. Else prove '..UptoSaid'. A law counts once. -/
mutual
def uptoBulk {H : Type} : DataW H → Nat
  | .lit (.string bytes) => bytes.length + 1
  | .lit _ => 1
  | .nil => 1
  | .ptr d => uptoBulk d + 1
  | .slice elems spare => uptoBulkAll elems + uptoBulkAll spare + 1
  | .agg parts => uptoBulkAll parts + 1
  | .iface _ d => uptoBulk d + 1
  | .map entries => uptoBulkEntries entries + 1
  | .held _ => 1
def uptoBulkAll {H : Type} : List (DataW H) → Nat
  | [] => 0
  | d :: r => uptoBulk d + uptoBulkAll r
def uptoBulkEntries {H : Type} : List (Lit × DataW H) → Nat
  | [] => 0
  | x :: r => uptoBulkEntry x + uptoBulkEntries r
def uptoBulkEntry {H : Type} : Lit × DataW H → Nat
  | (.string bytes, d) => bytes.length + uptoBulk d + 1
  | (_, d) => uptoBulk d + 1
 end
def uptoSmall : (H : Type) → List (DataW H) → Bool := fun _ ds => decide (uptoBulkAll ds ≤ 1048576)
def OpenSpec.upto (s : _root_.Go.ChangeSpec) : _root_.Go.OpenSpec := { _root_.Go.OpenSpec.ofChange s with cond := some uptoSmall }

/-- 'tapearchivelaw32.QuotaAdmits', WHERE WHAT IT READS IS OF BULK AT MOST 1048576: true; the input reads as it did. -/
def quotaAdmitsUptoRow : OpenClaim := { program := "ytbadelcnaeijkaa", sum := "e56553e973e7ce7dfa42f2c54eeac621dc5ebc31eb7cc4ea320888f37349da16", func := "tapearchive/tapearchivelaw32.QuotaAdmits", spec := "quotaAdmits", unfollowed := true, recurses := true, named := ["math/bits.divideError", "math/bits.overflowError"], apart := false, narrowed := true }
def QuotaAdmitsUptoSaid : Prop := quotaAdmitsUptoRow.holds Try.pinned (OpenSpec.upto quotaAdmitsSpec)

/-- 'tapearchivelaw32.QuotaShares', WHERE WHAT IT READS IS OF BULK AT MOST 1048576: true; the input reads as it did. -/
def quotaSharesUptoRow : OpenClaim := { program := "ytbadelcnaeijkaa", sum := "e56553e973e7ce7dfa42f2c54eeac621dc5ebc31eb7cc4ea320888f37349da16", func := "tapearchive/tapearchivelaw32.QuotaShares", spec := "quotaShares", unfollowed := true, recurses := true, named := ["math/bits.divideError", "math/bits.overflowError"], apart := false, narrowed := true }
def QuotaSharesUptoSaid : Prop := quotaSharesUptoRow.holds Try.pinned (OpenSpec.upto quotaSharesSpec)

/-- 'tapearchivelaw32.QuotaSums', WHERE WHAT IT READS IS OF BULK AT MOST 1048576: true; the input reads as it did. -/
def quotaSumsUptoRow : OpenClaim := { program := "ytbadelcnaeijkaa", sum := "e56553e973e7ce7dfa42f2c54eeac621dc5ebc31eb7cc4ea320888f37349da16", func := "tapearchive/tapearchivelaw32.QuotaSums", spec := "quotaSums", unfollowed := true, recurses := true, named := ["math/bits.divideError", "math/bits.overflowError"], apart := false, narrowed := true }
def QuotaSumsUptoSaid : Prop := quotaSumsUptoRow.holds Try.pinned (OpenSpec.upto quotaSumsSpec)

/-- 'tapearchivelaw32.QuotaUses', WHERE WHAT IT READS IS OF BULK AT MOST 1048576: true; the input reads as it did. -/
def quotaUsesUptoRow : OpenClaim := { program := "ytbadelcnaeijkaa", sum := "e56553e973e7ce7dfa42f2c54eeac621dc5ebc31eb7cc4ea320888f37349da16", func := "tapearchive/tapearchivelaw32.QuotaUses", spec := "quotaUses", unfollowed := true, recurses := true, named := ["math/bits.divideError", "math/bits.overflowError"], apart := false, narrowed := true }
def QuotaUsesUptoSaid : Prop := quotaUsesUptoRow.holds Try.pinned (OpenSpec.upto quotaUsesSpec)

/-- 'tapearchivelaw32.QuotaExact', WHERE WHAT IT READS IS OF BULK AT MOST 1048576: true; the input reads as it did. -/
def quotaExactUptoRow : OpenClaim := { program := "ytbadelcnaeijkaa", sum := "e56553e973e7ce7dfa42f2c54eeac621dc5ebc31eb7cc4ea320888f37349da16", func := "tapearchive/tapearchivelaw32.QuotaExact", spec := "quotaExact", unfollowed := true, recurses := true, named := ["math/bits.divideError", "math/bits.overflowError"], apart := false, narrowed := true }
def QuotaExactUptoSaid : Prop := quotaExactUptoRow.holds Try.pinned (OpenSpec.upto quotaExactSpec)

/-- 'tapearchivelaw32.QuotaGrows', WHERE WHAT IT READS IS OF BULK AT MOST 1048576: true; the input reads as it did. -/
def quotaGrowsUptoRow : OpenClaim := { program := "ytbadelcnaeijkaa", sum := "e56553e973e7ce7dfa42f2c54eeac621dc5ebc31eb7cc4ea320888f37349da16", func := "tapearchive/tapearchivelaw32.QuotaGrows", spec := "quotaGrows", unfollowed := true, recurses := true, named := ["math/bits.divideError", "math/bits.overflowError"], apart := false, narrowed := true }
def QuotaGrowsUptoSaid : Prop := quotaGrowsUptoRow.holds Try.pinned (OpenSpec.upto quotaGrowsSpec)

end Rows
end Go.Proofs.Ytbadelcnaeijkaa
