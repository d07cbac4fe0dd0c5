/-
  No cell of these rows narrows 'for every input' (looked for: loops, veiled, ifaces, maps, wideKeys, modest, calm, conditions, laid).
  DERIVED. THE GIVEN ROWS OF THIS SEAT. 7 by the template 'for every input the law returns true; each argument reads behind the call as it read before'; 0 by the template 'total and deterministic' (their statements: YtdodhfodojjfeaaTotals.lean).
  GIVEN WITH THE SEED: the statements are not yours to turn. If you find one false, say at which input.
  Laid BY PROGRAM, IN A SANDBOX (cutbox-rows.mjs): the forced cells as the released guide's own fill.sh prints them over the translation 8da612284cf3edd2… (all of the seat's roots in one cut). By AI agents, Wed Nov 11 2026. No macro, syntax, notation, axiom, sorry.
-/
import Derived.Test.YtdodhfodojjfeaaChecked
import GoSem.Claim
import GoSem.ClaimJoined
import GoSem.ClaimMapViews
import Derived.JoinedTies
import Derived.KernelRfl
namespace Go.Proofs.Ytdodhfodojjfeaa
/- THE CELL 'sum', in the pinned program and in every row, IS THE sha256 OF THE DUMP (.gsa) THAT YtdodhfodojjfeaaProg.lean LOADS. Nothing in Lean hashes anything: it is a label: what it is worth is what the hold of that sum in a sandbox is worth. -/
noncomputable def Try.pinned : Pinned := { name := "ytdodhfodojjfeaa", sum := "8da612284cf3edd27a48d3c5dfb8c6dbb6e724a0c732864f92068e913c2be328", checked := Try.checked }
namespace Rows
def none {H : Type} : Left H := { results := [], args := [] }

/-- 'latecomerlaw36.QuotaFair': WHATEVER THE INPUT: true; the input reads as it did. -/
def quotaFairSpec : ChangeSpec := { name := "quotaFair", fn := fun _ => fun
  | [d1, d2, d3] => { results := [.lit (.bool true)], args := [d1, d2, d3] }
  | _ => none }
def quotaFairRow : OpenClaim := { program := "ytdodhfodojjfeaa", sum := "8da612284cf3edd27a48d3c5dfb8c6dbb6e724a0c732864f92068e913c2be328", func := "latecomer/latecomerlaw36.QuotaFair", spec := "quotaFair", unfollowed := true, recurses := true, apart := false }
def QuotaFairSaid : Prop := quotaFairRow.holds Try.pinned (OpenSpec.ofChange quotaFairSpec)

/-- ITS FALSE NEIGHBOUR: 'it returns false'. Refute it at one input. -/
def quotaFairWrong : ChangeSpec := { name := "quotaFair", fn := fun _ => fun
  | [d1, d2, d3] => { results := [.lit (.bool false)], args := [d1, d2, d3] }
  | _ => none }
def QuotaFairWrongFalsely : Prop := quotaFairRow.holds Try.pinned (OpenSpec.ofChange quotaFairWrong)

/-- 'latecomerlaw36.QuotaGuards': WHATEVER THE INPUT: true; the input reads as it did. -/
def quotaGuardsSpec : ChangeSpec := { name := "quotaGuards", fn := fun _ => fun
  | [d1, d2, d3, d4, d5] => { results := [.lit (.bool true)], args := [d1, d2, d3, d4, d5] }
  | _ => none }
def quotaGuardsRow : OpenClaim := { program := "ytdodhfodojjfeaa", sum := "8da612284cf3edd27a48d3c5dfb8c6dbb6e724a0c732864f92068e913c2be328", func := "latecomer/latecomerlaw36.QuotaGuards", spec := "quotaGuards", unfollowed := true, recurses := true, apart := false }
def QuotaGuardsSaid : Prop := quotaGuardsRow.holds Try.pinned (OpenSpec.ofChange quotaGuardsSpec)

/-- ITS FALSE NEIGHBOUR: 'it returns false'. Refute it at one input. -/
def quotaGuardsWrong : ChangeSpec := { name := "quotaGuards", fn := fun _ => fun
  | [d1, d2, d3, d4, d5] => { results := [.lit (.bool false)], args := [d1, d2, d3, d4, d5] }
  | _ => none }
def QuotaGuardsWrongFalsely : Prop := quotaGuardsRow.holds Try.pinned (OpenSpec.ofChange quotaGuardsWrong)

/-- 'latecomerlaw36.QuotaGrows': WHATEVER THE INPUT: true; the input reads as it did. -/
def quotaGrowsSpec : ChangeSpec := { name := "quotaGrows", fn := fun _ => fun
  | [d1, d2, d3, d4, d5, d6] => { results := [.lit (.bool true)], args := [d1, d2, d3, d4, d5, d6] }
  | _ => none }
def quotaGrowsRow : OpenClaim := { program := "ytdodhfodojjfeaa", sum := "8da612284cf3edd27a48d3c5dfb8c6dbb6e724a0c732864f92068e913c2be328", func := "latecomer/latecomerlaw36.QuotaGrows", spec := "quotaGrows", unfollowed := true, recurses := true, apart := false }
def QuotaGrowsSaid : Prop := quotaGrowsRow.holds Try.pinned (OpenSpec.ofChange quotaGrowsSpec)

/-- ITS FALSE NEIGHBOUR: 'it returns false'. Refute it at one input. -/
def quotaGrowsWrong : ChangeSpec := { name := "quotaGrows", fn := fun _ => fun
  | [d1, d2, d3, d4, d5, d6] => { results := [.lit (.bool false)], args := [d1, d2, d3, d4, d5, d6] }
  | _ => none }
def QuotaGrowsWrongFalsely : Prop := quotaGrowsRow.holds Try.pinned (OpenSpec.ofChange quotaGrowsWrong)

/-- 'latecomerlaw36.QuotaCalm': WHATEVER THE INPUT: true; the input reads as it did. -/
def quotaCalmSpec : ChangeSpec := { name := "quotaCalm", fn := fun _ => fun
  | [d1, d2, d3, d4, d5, d6] => { results := [.lit (.bool true)], args := [d1, d2, d3, d4, d5, d6] }
  | _ => none }
def quotaCalmRow : OpenClaim := { program := "ytdodhfodojjfeaa", sum := "8da612284cf3edd27a48d3c5dfb8c6dbb6e724a0c732864f92068e913c2be328", func := "latecomer/latecomerlaw36.QuotaCalm", spec := "quotaCalm", unfollowed := true, recurses := true, apart := false }
def QuotaCalmSaid : Prop := quotaCalmRow.holds Try.pinned (OpenSpec.ofChange quotaCalmSpec)

/-- ITS FALSE NEIGHBOUR: 'it returns false'. Refute it at one input. -/
def quotaCalmWrong : ChangeSpec := { name := "quotaCalm", fn := fun _ => fun
  | [d1, d2, d3, d4, d5, d6] => { results := [.lit (.bool false)], args := [d1, d2, d3, d4, d5, d6] }
  | _ => none }
def QuotaCalmWrongFalsely : Prop := quotaCalmRow.holds Try.pinned (OpenSpec.ofChange quotaCalmWrong)

/-- 'latecomerlaw36.QuotaMatchesReference': WHATEVER THE INPUT: true; the input reads as it did. -/
def quotaMatchesReferenceSpec : ChangeSpec := { name := "quotaMatchesReference", fn := fun _ => fun
  | [d1, d2, d3, d4, d5] => { results := [.lit (.bool true)], args := [d1, d2, d3, d4, d5] }
  | _ => none }
def quotaMatchesReferenceRow : OpenClaim := { program := "ytdodhfodojjfeaa", sum := "8da612284cf3edd27a48d3c5dfb8c6dbb6e724a0c732864f92068e913c2be328", func := "latecomer/latecomerlaw36.QuotaMatchesReference", spec := "quotaMatchesReference", unfollowed := true, recurses := true, apart := false }
def QuotaMatchesReferenceSaid : Prop := quotaMatchesReferenceRow.holds Try.pinned (OpenSpec.ofChange quotaMatchesReferenceSpec)

/-- ITS FALSE NEIGHBOUR: 'it returns false'. Refute it at one input. -/
def quotaMatchesReferenceWrong : ChangeSpec := { name := "quotaMatchesReference", fn := fun _ => fun
  | [d1, d2, d3, d4, d5] => { results := [.lit (.bool false)], args := [d1, d2, d3, d4, d5] }
  | _ => none }
def QuotaMatchesReferenceWrongFalsely : Prop := quotaMatchesReferenceRow.holds Try.pinned (OpenSpec.ofChange quotaMatchesReferenceWrong)

/-- 'latecomerlaw36.QuotaKeeps': WHATEVER THE INPUT: true; the input reads as it did. -/
def quotaKeepsSpec : ChangeSpec := { name := "quotaKeeps", fn := fun _ => fun
  | [d1, d2, d3, d4, d5] => { results := [.lit (.bool true)], args := [d1, d2, d3, d4, d5] }
  | _ => none }
def quotaKeepsRow : OpenClaim := { program := "ytdodhfodojjfeaa", sum := "8da612284cf3edd27a48d3c5dfb8c6dbb6e724a0c732864f92068e913c2be328", func := "latecomer/latecomerlaw36.QuotaKeeps", spec := "quotaKeeps", unfollowed := true, recurses := true, apart := false }
def QuotaKeepsSaid : Prop := quotaKeepsRow.holds Try.pinned (OpenSpec.ofChange quotaKeepsSpec)

/-- ITS FALSE NEIGHBOUR: 'it returns false'. Refute it at one input. -/
def quotaKeepsWrong : ChangeSpec := { name := "quotaKeeps", fn := fun _ => fun
  | [d1, d2, d3, d4, d5] => { results := [.lit (.bool false)], args := [d1, d2, d3, d4, d5] }
  | _ => none }
def QuotaKeepsWrongFalsely : Prop := quotaKeepsRow.holds Try.pinned (OpenSpec.ofChange quotaKeepsWrong)

/-- 'latecomerlaw36.QuotaTurns': WHATEVER THE INPUT: true; the input reads as it did. -/
def quotaTurnsSpec : ChangeSpec := { name := "quotaTurns", fn := fun _ => fun
  | [d1, d2, d3] => { results := [.lit (.bool true)], args := [d1, d2, d3] }
  | _ => none }
def quotaTurnsRow : OpenClaim := { program := "ytdodhfodojjfeaa", sum := "8da612284cf3edd27a48d3c5dfb8c6dbb6e724a0c732864f92068e913c2be328", func := "latecomer/latecomerlaw36.QuotaTurns", spec := "quotaTurns", unfollowed := true, recurses := true, apart := false }
def QuotaTurnsSaid : Prop := quotaTurnsRow.holds Try.pinned (OpenSpec.ofChange quotaTurnsSpec)

/-- ITS FALSE NEIGHBOUR: 'it returns false'. Refute it at one input. -/
def quotaTurnsWrong : ChangeSpec := { name := "quotaTurns", fn := fun _ => fun
  | [d1, d2, d3] => { results := [.lit (.bool false)], args := [d1, d2, d3] }
  | _ => none }
def QuotaTurnsWrongFalsely : Prop := quotaTurnsRow.holds Try.pinned (OpenSpec.ofChange quotaTurnsWrong)

/- THE SECOND FORM. 'bulk': how many values and letters a reading holds, each counted each time it is reached (what is shared counts as often as it is met; a slice's spare places count too). A statement '..UptoSaid' is the law's where the arguments, and the package variables that the reading takes, are together of bulk at most 1048576: NARROWER than '..Said'. Prove '..Said' where nothing that the law and all that it calls make is longer than what came in: it says more and counts as full. Else prove '..UptoSaid'. A law counts once. -/
mutual
def uptoBulk {H : Type} : DataW H → Nat
  | .lit (.string bytes) => bytes.length + 1
  | .lit _ => 1
  | .nil => 1
  | .ptr d => uptoBulk d + 1
  | .slice elems spare => uptoBulkAll elems + uptoBulkAll spare + 1
  | .agg parts => uptoBulkAll parts + 1
  | .iface _ d => uptoBulk d + 1
  | .map entries => uptoBulkEntries entries + 1
  | .held _ => 1
def uptoBulkAll {H : Type} : List (DataW H) → Nat
  | [] => 0
  | d :: r => uptoBulk d + uptoBulkAll r
def uptoBulkEntries {H : Type} : List (Lit × DataW H) → Nat
  | [] => 0
  | x :: r => uptoBulkEntry x + uptoBulkEntries r
def uptoBulkEntry {H : Type} : Lit × DataW H → Nat
  | (.string bytes, d) => bytes.length + uptoBulk d + 1
  | (_, d) => uptoBulk d + 1
 end
def uptoSmall : (H : Type) → List (DataW H) → Bool := fun _ ds => decide (uptoBulkAll ds ≤ 1048576)
def OpenSpec.upto (s : _root_.Go.ChangeSpec) : _root_.Go.OpenSpec := { _root_.Go.OpenSpec.ofChange s with cond := some uptoSmall }

/-- 'latecomerlaw36.QuotaFair', WHERE WHAT IT READS IS OF BULK AT MOST 1048576: true; the input reads as it did. -/
def quotaFairUptoRow : OpenClaim := { program := "ytdodhfodojjfeaa", sum := "8da612284cf3edd27a48d3c5dfb8c6dbb6e724a0c732864f92068e913c2be328", func := "latecomer/latecomerlaw36.QuotaFair", spec := "quotaFair", unfollowed := true, recurses := true, apart := false, narrowed := true }
def QuotaFairUptoSaid : Prop := quotaFairUptoRow.holds Try.pinned (OpenSpec.upto quotaFairSpec)

/-- 'latecomerlaw36.QuotaGuards', WHERE WHAT IT READS IS OF BULK AT MOST 1048576: true; the input reads as it did. -/
def quotaGuardsUptoRow : OpenClaim := { program := "ytdodhfodojjfeaa", sum := "8da612284cf3edd27a48d3c5dfb8c6dbb6e724a0c732864f92068e913c2be328", func := "latecomer/latecomerlaw36.QuotaGuards", spec := "quotaGuards", unfollowed := true, recurses := true, apart := false, narrowed := true }
def QuotaGuardsUptoSaid : Prop := quotaGuardsUptoRow.holds Try.pinned (OpenSpec.upto quotaGuardsSpec)

/-- 'latecomerlaw36.QuotaGrows', WHERE WHAT IT READS IS OF BULK AT MOST 1048576: true; the input reads as it did. -/
def quotaGrowsUptoRow : OpenClaim := { program := "ytdodhfodojjfeaa", sum := "8da612284cf3edd27a48d3c5dfb8c6dbb6e724a0c732864f92068e913c2be328", func := "latecomer/latecomerlaw36.QuotaGrows", spec := "quotaGrows", unfollowed := true, recurses := true, apart := false, narrowed := true }
def QuotaGrowsUptoSaid : Prop := quotaGrowsUptoRow.holds Try.pinned (OpenSpec.upto quotaGrowsSpec)

/-- 'latecomerlaw36.QuotaCalm', WHERE WHAT IT READS IS OF BULK AT MOST 1048576: true; the input reads as it did. -/
def quotaCalmUptoRow : OpenClaim := { program := "ytdodhfodojjfeaa", sum := "8da612284cf3edd27a48d3c5dfb8c6dbb6e724a0c732864f92068e913c2be328", func := "latecomer/latecomerlaw36.QuotaCalm", spec := "quotaCalm", unfollowed := true, recurses := true, apart := false, narrowed := true }
def QuotaCalmUptoSaid : Prop := quotaCalmUptoRow.holds Try.pinned (OpenSpec.upto quotaCalmSpec)

/-- 'latecomerlaw36.QuotaMatchesReference', WHERE WHAT IT READS IS OF BULK AT MOST 1048576: true; the input reads as it did. -/
def quotaMatchesReferenceUptoRow : OpenClaim := { program := "ytdodhfodojjfeaa", sum := "8da612284cf3edd27a48d3c5dfb8c6dbb6e724a0c732864f92068e913c2be328", func := "latecomer/latecomerlaw36.QuotaMatchesReference", spec := "quotaMatchesReference", unfollowed := true, recurses := true, apart := false, narrowed := true }
def QuotaMatchesReferenceUptoSaid : Prop := quotaMatchesReferenceUptoRow.holds Try.pinned (OpenSpec.upto quotaMatchesReferenceSpec)

/-- 'latecomerlaw36.QuotaKeeps', WHERE WHAT IT READS IS OF BULK AT MOST 1048576: true; the input reads as it did. -/
def quotaKeepsUptoRow : OpenClaim := { program := "ytdodhfodojjfeaa", sum := "8da612284cf3edd27a48d3c5dfb8c6dbb6e724a0c732864f92068e913c2be328", func := "latecomer/latecomerlaw36.QuotaKeeps", spec := "quotaKeeps", unfollowed := true, recurses := true, apart := false, narrowed := true }
def QuotaKeepsUptoSaid : Prop := quotaKeepsUptoRow.holds Try.pinned (OpenSpec.upto quotaKeepsSpec)

/-- 'latecomerlaw36.QuotaTurns', WHERE WHAT IT READS IS OF BULK AT MOST 1048576: true; the input reads as it did. -/
def quotaTurnsUptoRow : OpenClaim := { program := "ytdodhfodojjfeaa", sum := "8da612284cf3edd27a48d3c5dfb8c6dbb6e724a0c732864f92068e913c2be328", func := "latecomer/latecomerlaw36.QuotaTurns", spec := "quotaTurns", unfollowed := true, recurses := true, apart := false, narrowed := true }
def QuotaTurnsUptoSaid : Prop := quotaTurnsUptoRow.holds Try.pinned (OpenSpec.upto quotaTurnsSpec)

end Rows
end Go.Proofs.Ytdodhfodojjfeaa
