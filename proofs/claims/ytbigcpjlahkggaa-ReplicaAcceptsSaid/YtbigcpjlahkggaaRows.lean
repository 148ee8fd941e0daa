/-
  No cell of these rows narrows 'for every input' (looked for: loops, veiled, ifaces, maps, wideKeys, modest, calm, conditions, laid).
  DERIVED. THE GIVEN ROWS OF THIS SEAT. 5 by the template 'for every input the law returns true; each argument reads behind the call as it read before'; 0 by the template 'total and deterministic' (their statements: YtbigcpjlahkggaaTotals.lean).
  GIVEN WITH THE SEED: the statements are not yours to turn. If you find one false, say at which input.
  Laid BY PROGRAM, IN A SANDBOX (cutbox-rows.mjs): the forced cells as the released guide's own fill.sh prints them over the translation 3b714d838b2c40e5… (all of the seat's roots in one cut). By AI agents, Wed Nov 11 2026. No macro, syntax, notation, axiom, sorry.
-/
import Derived.Test.YtbigcpjlahkggaaChecked
import GoSem.Claim
import GoSem.ClaimJoined
import GoSem.ClaimMapViews
import Derived.JoinedTies
import Derived.KernelRfl
namespace Go.Proofs.Ytbigcpjlahkggaa
/- THE CELL 'sum', in the pinned program and in every row, IS THE sha256 OF THE DUMP (.gsa) THAT YtbigcpjlahkggaaProg.lean LOADS. Nothing in Lean hashes anything: it is a label: what it is worth is what the hold of that sum in a sandbox is worth. -/
noncomputable def Try.pinned : Pinned := { name := "ytbigcpjlahkggaa", sum := "3b714d838b2c40e53b0d1fac0483002d0eb63194317247e34cd421df88290272", checked := Try.checked }
namespace Rows
def none {H : Type} : Left H := { results := [], args := [] }

/-- 'tapearchivelaw26.ReplicaOffers': WHATEVER THE INPUT: true; the input reads as it did. -/
def replicaOffersSpec : ChangeSpec := { name := "replicaOffers", fn := fun _ => fun
  | [d1, d2, d3] => { results := [.lit (.bool true)], args := [d1, d2, d3] }
  | _ => none }
def replicaOffersRow : OpenClaim := { program := "ytbigcpjlahkggaa", sum := "3b714d838b2c40e53b0d1fac0483002d0eb63194317247e34cd421df88290272", func := "tapearchive/tapearchivelaw26.ReplicaOffers", spec := "replicaOffers", unfollowed := true, recurses := true, apart := false }
def ReplicaOffersSaid : Prop := replicaOffersRow.holds Try.pinned (OpenSpec.ofChange replicaOffersSpec)

/-- ITS FALSE NEIGHBOUR: 'it returns false'. Refute it at one input. -/
def replicaOffersWrong : ChangeSpec := { name := "replicaOffers", fn := fun _ => fun
  | [d1, d2, d3] => { results := [.lit (.bool false)], args := [d1, d2, d3] }
  | _ => none }
def ReplicaOffersWrongFalsely : Prop := replicaOffersRow.holds Try.pinned (OpenSpec.ofChange replicaOffersWrong)

/-- 'tapearchivelaw26.ReplicaAccepts': WHATEVER THE INPUT: true; the input reads as it did. -/
def replicaAcceptsSpec : ChangeSpec := { name := "replicaAccepts", fn := fun _ => fun
  | [d1, d2] => { results := [.lit (.bool true)], args := [d1, d2] }
  | _ => none }
def replicaAcceptsRow : OpenClaim := { program := "ytbigcpjlahkggaa", sum := "3b714d838b2c40e53b0d1fac0483002d0eb63194317247e34cd421df88290272", func := "tapearchive/tapearchivelaw26.ReplicaAccepts", spec := "replicaAccepts", unfollowed := true, recurses := true, apart := false }
def ReplicaAcceptsSaid : Prop := replicaAcceptsRow.holds Try.pinned (OpenSpec.ofChange replicaAcceptsSpec)

/-- ITS FALSE NEIGHBOUR: 'it returns false'. Refute it at one input. -/
def replicaAcceptsWrong : ChangeSpec := { name := "replicaAccepts", fn := fun _ => fun
  | [d1, d2] => { results := [.lit (.bool false)], args := [d1, d2] }
  | _ => none }
def ReplicaAcceptsWrongFalsely : Prop := replicaAcceptsRow.holds Try.pinned (OpenSpec.ofChange replicaAcceptsWrong)

/-- 'tapearchivelaw26.ReplicaElects': WHATEVER THE INPUT: true; the input reads as it did. -/
def replicaElectsSpec : ChangeSpec := { name := "replicaElects", fn := fun _ => fun
  | [d1, d2] => { results := [.lit (.bool true)], args := [d1, d2] }
  | _ => none }
def replicaElectsRow : OpenClaim := { program := "ytbigcpjlahkggaa", sum := "3b714d838b2c40e53b0d1fac0483002d0eb63194317247e34cd421df88290272", func := "tapearchive/tapearchivelaw26.ReplicaElects", spec := "replicaElects", unfollowed := true, recurses := true, apart := false }
def ReplicaElectsSaid : Prop := replicaElectsRow.holds Try.pinned (OpenSpec.ofChange replicaElectsSpec)

/-- ITS FALSE NEIGHBOUR: 'it returns false'. Refute it at one input. -/
def replicaElectsWrong : ChangeSpec := { name := "replicaElects", fn := fun _ => fun
  | [d1, d2] => { results := [.lit (.bool false)], args := [d1, d2] }
  | _ => none }
def ReplicaElectsWrongFalsely : Prop := replicaElectsRow.holds Try.pinned (OpenSpec.ofChange replicaElectsWrong)

/-- 'tapearchivelaw26.ReplicaCommits': WHATEVER THE INPUT: true; the input reads as it did. -/
def replicaCommitsSpec : ChangeSpec := { name := "replicaCommits", fn := fun _ => fun
  | [d1, d2] => { results := [.lit (.bool true)], args := [d1, d2] }
  | _ => none }
def replicaCommitsRow : OpenClaim := { program := "ytbigcpjlahkggaa", sum := "3b714d838b2c40e53b0d1fac0483002d0eb63194317247e34cd421df88290272", func := "tapearchive/tapearchivelaw26.ReplicaCommits", spec := "replicaCommits", unfollowed := true, recurses := true, apart := false }
def ReplicaCommitsSaid : Prop := replicaCommitsRow.holds Try.pinned (OpenSpec.ofChange replicaCommitsSpec)

/-- ITS FALSE NEIGHBOUR: 'it returns false'. Refute it at one input. -/
def replicaCommitsWrong : ChangeSpec := { name := "replicaCommits", fn := fun _ => fun
  | [d1, d2] => { results := [.lit (.bool false)], args := [d1, d2] }
  | _ => none }
def ReplicaCommitsWrongFalsely : Prop := replicaCommitsRow.holds Try.pinned (OpenSpec.ofChange replicaCommitsWrong)

/-- 'tapearchivelaw26.ReplicaAgrees': WHATEVER THE INPUT: true; the input reads as it did. -/
def replicaAgreesSpec : ChangeSpec := { name := "replicaAgrees", fn := fun _ => fun
  | [d1, d2] => { results := [.lit (.bool true)], args := [d1, d2] }
  | _ => none }
def replicaAgreesRow : OpenClaim := { program := "ytbigcpjlahkggaa", sum := "3b714d838b2c40e53b0d1fac0483002d0eb63194317247e34cd421df88290272", func := "tapearchive/tapearchivelaw26.ReplicaAgrees", spec := "replicaAgrees", unfollowed := true, recurses := true, apart := false }
def ReplicaAgreesSaid : Prop := replicaAgreesRow.holds Try.pinned (OpenSpec.ofChange replicaAgreesSpec)

/-- ITS FALSE NEIGHBOUR: 'it returns false'. Refute it at one input. -/
def replicaAgreesWrong : ChangeSpec := { name := "replicaAgrees", fn := fun _ => fun
  | [d1, d2] => { results := [.lit (.bool false)], args := [d1, d2] }
  | _ => none }
def ReplicaAgreesWrongFalsely : Prop := replicaAgreesRow.holds Try.pinned (OpenSpec.ofChange replicaAgreesWrong)

/- THE SECOND FORM. 'bulk': how many values and letters a reading holds, each counted each time it is reached (what is shared counts as often as it is met; a slice's spare places count too). A statement '..UptoSaid' is the law's where the arguments, and the package variables that the reading takes, are together of bulk at most 1048576: NARROWER than '..Said'. Prove '..Said' where nothing that the law and all that it calls make is longer than what came in: it says more and counts as full. Else prove '..UptoSaid'. A law counts once. -/
mutual
def uptoBulk {H : Type} : DataW H → Nat
  | .lit (.string bytes) => bytes.length + 1
  | .lit _ => 1
  | .nil => 1
  | .ptr d => uptoBulk d + 1
  | .slice elems spare => uptoBulkAll elems + uptoBulkAll spare + 1
  | .agg parts => uptoBulkAll parts + 1
  | .iface _ d => uptoBulk d + 1
  | .map entries => uptoBulkEntries entries + 1
  | .held _ => 1
def uptoBulkAll {H : Type} : List (DataW H) → Nat
  | [] => 0
  | d :: r => uptoBulk d + uptoBulkAll r
def uptoBulkEntries {H : Type} : List (Lit × DataW H) → Nat
  | [] => 0
  | x :: r => uptoBulkEntry x + uptoBulkEntries r
def uptoBulkEntry {H : Type} : Lit × DataW H → Nat
  | (.string bytes, d) => bytes.length + uptoBulk d + 1
  | (_, d) => uptoBulk d + 1
 end
def uptoSmall : (H : Type) → List (DataW H) → Bool := fun _ ds => decide (uptoBulkAll ds ≤ 1048576)
def OpenSpec.upto (s : _root_.Go.ChangeSpec) : _root_.Go.OpenSpec := { _root_.Go.OpenSpec.ofChange s with cond := some uptoSmall }

/-- 'tapearchivelaw26.ReplicaOffers', WHERE WHAT IT READS IS OF BULK AT MOST 1048576: true; the input reads as it did. -/
def replicaOffersUptoRow : OpenClaim := { program := "ytbigcpjlahkggaa", sum := "3b714d838b2c40e53b0d1fac0483002d0eb63194317247e34cd421df88290272", func := "tapearchive/tapearchivelaw26.ReplicaOffers", spec := "replicaOffers", unfollowed := true, recurses := true, apart := false, narrowed := true }
def ReplicaOffersUptoSaid : Prop := replicaOffersUptoRow.holds Try.pinned (OpenSpec.upto replicaOffersSpec)

/-- 'tapearchivelaw26.ReplicaAccepts', WHERE WHAT IT READS IS OF BULK AT MOST 1048576: true; the input reads as it did. -/
def replicaAcceptsUptoRow : OpenClaim := { program := "ytbigcpjlahkggaa", sum := "3b714d838b2c40e53b0d1fac0483002d0eb63194317247e34cd421df88290272", func := "tapearchive/tapearchivelaw26.ReplicaAccepts", spec := "replicaAccepts", unfollowed := true, recurses := true, apart := false, narrowed := true }
def ReplicaAcceptsUptoSaid : Prop := replicaAcceptsUptoRow.holds Try.pinned (OpenSpec.upto replicaAcceptsSpec)

/-- 'tapearchivelaw26.ReplicaElects', WHERE WHAT IT READS IS OF BULK AT MOST 1048576: true; the input reads as it did. -/
def replicaElectsUptoRow : OpenClaim := { program := "ytbigcpjlahkggaa", sum := "3b714d838b2c40e53b0d1fac0483002d0eb63194317247e34cd421df88290272", func := "tapearchive/tapearchivelaw26.ReplicaElects", spec := "replicaElects", unfollowed := true, recurses := true, apart := false, narrowed := true }
def ReplicaElectsUptoSaid : Prop := replicaElectsUptoRow.holds Try.pinned (OpenSpec.upto replicaElectsSpec)

/-- 'tapearchivelaw26.ReplicaCommits', WHERE WHAT IT READS IS OF BULK AT MOST 1048576: true; the input reads as it did. -/
def replicaCommitsUptoRow : OpenClaim := { program := "ytbigcpjlahkggaa", sum := "3b714d838b2c40e53b0d1fac0483002d0eb63194317247e34cd421df88290272", func := "tapearchive/tapearchivelaw26.ReplicaCommits", spec := "replicaCommits", unfollowed := true, recurses := true, apart := false, narrowed := true }
def ReplicaCommitsUptoSaid : Prop := replicaCommitsUptoRow.holds Try.pinned (OpenSpec.upto replicaCommitsSpec)

/-- 'tapearchivelaw26.ReplicaAgrees', WHERE WHAT IT READS IS OF BULK AT MOST 1048576: true; the input reads as it did. -/
def replicaAgreesUptoRow : OpenClaim := { program := "ytbigcpjlahkggaa", sum := "3b714d838b2c40e53b0d1fac0483002d0eb63194317247e34cd421df88290272", func := "tapearchive/tapearchivelaw26.ReplicaAgrees", spec := "replicaAgrees", unfollowed := true, recurses := true, apart := false, narrowed := true }
def ReplicaAgreesUptoSaid : Prop := replicaAgreesUptoRow.holds Try.pinned (OpenSpec.upto replicaAgreesSpec)

end Rows
end Go.Proofs.Ytbigcpjlahkggaa
