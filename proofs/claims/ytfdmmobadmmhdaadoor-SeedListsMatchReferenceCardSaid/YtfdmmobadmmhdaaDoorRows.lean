/-
  NARROWER THAN 'FOR EVERY INPUT', by the rows' own cells (each row's printed sentence says how): SeedMatchesReference: laid · SeedListsMatchReference: laid · SeedFair: laid · SeedDrawn: laid · SeedShuffled: laid · SeedSampled: laid · SeedChosen: laid.
  DERIVED. THE GIVEN ROWS OF THIS SEAT. 7 by the template 'for every input the law returns true; each argument reads behind the call as it read before'; 0 by the template 'total and deterministic' (their statements: YtfdmmobadmmhdaaDoorTotals.lean).
  GIVEN WITH THE SEED: the statements are not yours to turn. If you find one false, say at which input.
  Laid BY PROGRAM, IN A SANDBOX (cutbox-rows.mjs): the forced cells as the released guide's own fill.sh prints them over the translation f445f1a15765084a… (all of the seat's roots in one cut). By AI agents, Wed Nov 11 2026. No macro, syntax, notation, axiom, sorry.
-/
import Derived.Test.YtfdmmobadmmhdaaDoorChecked
import GoSem.Claim
import GoSem.ClaimJoined
import GoSem.ClaimMapViews
import Derived.JoinedTies
import Derived.KernelRfl
namespace Go.Proofs.YtfdmmobadmmhdaaDoor
/- THE CELL 'sum', in the pinned program and in every row, IS THE sha256 OF THE DUMP (.gsa) THAT YtfdmmobadmmhdaaDoorProg.lean LOADS. Nothing in Lean hashes anything: it is a label: what it is worth is what the hold of that sum in a sandbox is worth. -/
noncomputable def Tryd.pinned : Pinned := { name := "ytfdmmobadmmhdaadoor", sum := "f445f1a15765084a2d9a6ba0327d914f02b813180313a53bf3130004e2bc169b", checked := Tryd.checked }
namespace Rows
def none {H : Type} : Left H := { results := [], args := [] }

/- WHAT THE LISTED PACKAGE-LEVEL VARIABLES READ AS WHEN THE CALL BEGINS. Each datum BY PROGRAM (the guide's laid-datum.mjs) off the statement by which the dump's own 'gosem.cut.vars' lays the variable. In a bare row this is a premise. The card (YtfdmmobadmmhdaaDoorCards.lean) ties it to the program's text. -/
def laid_latecomer_digest_round {H : Type} : DataW H := .agg [.lit (.int .u32 1116352408), .lit (.int .u32 1899447441), .lit (.int .u32 3049323471), .lit (.int .u32 3921009573), .lit (.int .u32 961987163), .lit (.int .u32 1508970993), .lit (.int .u32 2453635748), .lit (.int .u32 2870763221), .lit (.int .u32 3624381080), .lit (.int .u32 310598401), .lit (.int .u32 607225278), .lit (.int .u32 1426881987), .lit (.int .u32 1925078388), .lit (.int .u32 2162078206), .lit (.int .u32 2614888103), .lit (.int .u32 3248222580), .lit (.int .u32 3835390401), .lit (.int .u32 4022224774), .lit (.int .u32 264347078), .lit (.int .u32 604807628), .lit (.int .u32 770255983), .lit (.int .u32 1249150122), .lit (.int .u32 1555081692), .lit (.int .u32 1996064986), .lit (.int .u32 2554220882), .lit (.int .u32 2821834349), .lit (.int .u32 2952996808), .lit (.int .u32 3210313671), .lit (.int .u32 3336571891), .lit (.int .u32 3584528711), .lit (.int .u32 113926993), .lit (.int .u32 338241895), .lit (.int .u32 666307205), .lit (.int .u32 773529912), .lit (.int .u32 1294757372), .lit (.int .u32 1396182291), .lit (.int .u32 1695183700), .lit (.int .u32 1986661051), .lit (.int .u32 2177026350), .lit (.int .u32 2456956037), .lit (.int .u32 2730485921), .lit (.int .u32 2820302411), .lit (.int .u32 3259730800), .lit (.int .u32 3345764771), .lit (.int .u32 3516065817), .lit (.int .u32 3600352804), .lit (.int .u32 4094571909), .lit (.int .u32 275423344), .lit (.int .u32 430227734), .lit (.int .u32 506948616), .lit (.int .u32 659060556), .lit (.int .u32 883997877), .lit (.int .u32 958139571), .lit (.int .u32 1322822218), .lit (.int .u32 1537002063), .lit (.int .u32 1747873779), .lit (.int .u32 1955562222), .lit (.int .u32 2024104815), .lit (.int .u32 2227730452), .lit (.int .u32 2361852424), .lit (.int .u32 2428436474), .lit (.int .u32 2756734187), .lit (.int .u32 3204031479), .lit (.int .u32 3329325298)]

/-- 'latecomerlaw06.SeedMatchesReference': WHATEVER THE INPUT: true; the input reads as it did. -/
def seedMatchesReferenceSpec : ChangeSpec := { name := "seedMatchesReference", fn := fun _ => fun
  | [d1, d2, d3, d4, d5] => { results := [.lit (.bool true)], args := [d1, d2, d3, d4, d5] }
  | _ => none }
def seedMatchesReferenceRow : OpenClaim := { program := "ytfdmmobadmmhdaadoor", sum := "f445f1a15765084a2d9a6ba0327d914f02b813180313a53bf3130004e2bc169b", func := "latecomer/latecomerlaw06.SeedMatchesReference", spec := "seedMatchesReference", unfollowed := true, recurses := true, named := ["latecomer/digest.round"], apart := false, laid := [("latecomer/digest.round", laid_latecomer_digest_round)] }
def SeedMatchesReferenceSaid : Prop := seedMatchesReferenceRow.holds Tryd.pinned (OpenSpec.ofChange seedMatchesReferenceSpec)

/-- ITS FALSE NEIGHBOUR: 'it returns false'. Refute it at one input. -/
def seedMatchesReferenceWrong : ChangeSpec := { name := "seedMatchesReference", fn := fun _ => fun
  | [d1, d2, d3, d4, d5] => { results := [.lit (.bool false)], args := [d1, d2, d3, d4, d5] }
  | _ => none }
def SeedMatchesReferenceWrongFalsely : Prop := seedMatchesReferenceRow.holds Tryd.pinned (OpenSpec.ofChange seedMatchesReferenceWrong)

/-- 'latecomerlaw06.SeedListsMatchReference': WHATEVER THE INPUT: true; the input reads as it did. -/
def seedListsMatchReferenceSpec : ChangeSpec := { name := "seedListsMatchReference", fn := fun _ => fun
  | [d1, d2, d3, d4, d5] => { results := [.lit (.bool true)], args := [d1, d2, d3, d4, d5] }
  | _ => none }
def seedListsMatchReferenceRow : OpenClaim := { program := "ytfdmmobadmmhdaadoor", sum := "f445f1a15765084a2d9a6ba0327d914f02b813180313a53bf3130004e2bc169b", func := "latecomer/latecomerlaw06.SeedListsMatchReference", spec := "seedListsMatchReference", unfollowed := true, recurses := true, named := ["latecomer/digest.round"], apart := false, laid := [("latecomer/digest.round", laid_latecomer_digest_round)] }
def SeedListsMatchReferenceSaid : Prop := seedListsMatchReferenceRow.holds Tryd.pinned (OpenSpec.ofChange seedListsMatchReferenceSpec)

/-- ITS FALSE NEIGHBOUR: 'it returns false'. Refute it at one input. -/
def seedListsMatchReferenceWrong : ChangeSpec := { name := "seedListsMatchReference", fn := fun _ => fun
  | [d1, d2, d3, d4, d5] => { results := [.lit (.bool false)], args := [d1, d2, d3, d4, d5] }
  | _ => none }
def SeedListsMatchReferenceWrongFalsely : Prop := seedListsMatchReferenceRow.holds Tryd.pinned (OpenSpec.ofChange seedListsMatchReferenceWrong)

/-- 'latecomerlaw06.SeedFair': WHATEVER THE INPUT: true; the input reads as it did. -/
def seedFairSpec : ChangeSpec := { name := "seedFair", fn := fun _ => fun
  | [d1, d2, d3] => { results := [.lit (.bool true)], args := [d1, d2, d3] }
  | _ => none }
def seedFairRow : OpenClaim := { program := "ytfdmmobadmmhdaadoor", sum := "f445f1a15765084a2d9a6ba0327d914f02b813180313a53bf3130004e2bc169b", func := "latecomer/latecomerlaw06.SeedFair", spec := "seedFair", unfollowed := true, recurses := true, named := ["latecomer/digest.round"], apart := false, laid := [("latecomer/digest.round", laid_latecomer_digest_round)] }
def SeedFairSaid : Prop := seedFairRow.holds Tryd.pinned (OpenSpec.ofChange seedFairSpec)

/-- ITS FALSE NEIGHBOUR: 'it returns false'. Refute it at one input. -/
def seedFairWrong : ChangeSpec := { name := "seedFair", fn := fun _ => fun
  | [d1, d2, d3] => { results := [.lit (.bool false)], args := [d1, d2, d3] }
  | _ => none }
def SeedFairWrongFalsely : Prop := seedFairRow.holds Tryd.pinned (OpenSpec.ofChange seedFairWrong)

/-- 'latecomerlaw06.SeedDrawn': WHATEVER THE INPUT: true; the input reads as it did. -/
def seedDrawnSpec : ChangeSpec := { name := "seedDrawn", fn := fun _ => fun
  | [d1, d2, d3] => { results := [.lit (.bool true)], args := [d1, d2, d3] }
  | _ => none }
def seedDrawnRow : OpenClaim := { program := "ytfdmmobadmmhdaadoor", sum := "f445f1a15765084a2d9a6ba0327d914f02b813180313a53bf3130004e2bc169b", func := "latecomer/latecomerlaw06.SeedDrawn", spec := "seedDrawn", unfollowed := true, recurses := true, named := ["latecomer/digest.round"], apart := false, laid := [("latecomer/digest.round", laid_latecomer_digest_round)] }
def SeedDrawnSaid : Prop := seedDrawnRow.holds Tryd.pinned (OpenSpec.ofChange seedDrawnSpec)

/-- ITS FALSE NEIGHBOUR: 'it returns false'. Refute it at one input. -/
def seedDrawnWrong : ChangeSpec := { name := "seedDrawn", fn := fun _ => fun
  | [d1, d2, d3] => { results := [.lit (.bool false)], args := [d1, d2, d3] }
  | _ => none }
def SeedDrawnWrongFalsely : Prop := seedDrawnRow.holds Tryd.pinned (OpenSpec.ofChange seedDrawnWrong)

/-- 'latecomerlaw06.SeedShuffled': WHATEVER THE INPUT: true; the input reads as it did. -/
def seedShuffledSpec : ChangeSpec := { name := "seedShuffled", fn := fun _ => fun
  | [d1, d2] => { results := [.lit (.bool true)], args := [d1, d2] }
  | _ => none }
def seedShuffledRow : OpenClaim := { program := "ytfdmmobadmmhdaadoor", sum := "f445f1a15765084a2d9a6ba0327d914f02b813180313a53bf3130004e2bc169b", func := "latecomer/latecomerlaw06.SeedShuffled", spec := "seedShuffled", unfollowed := true, recurses := true, named := ["latecomer/digest.round"], apart := false, laid := [("latecomer/digest.round", laid_latecomer_digest_round)] }
def SeedShuffledSaid : Prop := seedShuffledRow.holds Tryd.pinned (OpenSpec.ofChange seedShuffledSpec)

/-- ITS FALSE NEIGHBOUR: 'it returns false'. Refute it at one input. -/
def seedShuffledWrong : ChangeSpec := { name := "seedShuffled", fn := fun _ => fun
  | [d1, d2] => { results := [.lit (.bool false)], args := [d1, d2] }
  | _ => none }
def SeedShuffledWrongFalsely : Prop := seedShuffledRow.holds Tryd.pinned (OpenSpec.ofChange seedShuffledWrong)

/-- 'latecomerlaw06.SeedSampled': WHATEVER THE INPUT: true; the input reads as it did. -/
def seedSampledSpec : ChangeSpec := { name := "seedSampled", fn := fun _ => fun
  | [d1, d2, d3, d4] => { results := [.lit (.bool true)], args := [d1, d2, d3, d4] }
  | _ => none }
def seedSampledRow : OpenClaim := { program := "ytfdmmobadmmhdaadoor", sum := "f445f1a15765084a2d9a6ba0327d914f02b813180313a53bf3130004e2bc169b", func := "latecomer/latecomerlaw06.SeedSampled", spec := "seedSampled", unfollowed := true, recurses := true, named := ["latecomer/digest.round"], apart := false, laid := [("latecomer/digest.round", laid_latecomer_digest_round)] }
def SeedSampledSaid : Prop := seedSampledRow.holds Tryd.pinned (OpenSpec.ofChange seedSampledSpec)

/-- ITS FALSE NEIGHBOUR: 'it returns false'. Refute it at one input. -/
def seedSampledWrong : ChangeSpec := { name := "seedSampled", fn := fun _ => fun
  | [d1, d2, d3, d4] => { results := [.lit (.bool false)], args := [d1, d2, d3, d4] }
  | _ => none }
def SeedSampledWrongFalsely : Prop := seedSampledRow.holds Tryd.pinned (OpenSpec.ofChange seedSampledWrong)

/-- 'latecomerlaw06.SeedChosen': WHATEVER THE INPUT: true; the input reads as it did. -/
def seedChosenSpec : ChangeSpec := { name := "seedChosen", fn := fun _ => fun
  | [d] => { results := [.lit (.bool true)], args := [d] }
  | _ => none }
def seedChosenRow : OpenClaim := { program := "ytfdmmobadmmhdaadoor", sum := "f445f1a15765084a2d9a6ba0327d914f02b813180313a53bf3130004e2bc169b", func := "latecomer/latecomerlaw06.SeedChosen", spec := "seedChosen", unfollowed := true, recurses := true, named := ["latecomer/digest.round"], apart := false, laid := [("latecomer/digest.round", laid_latecomer_digest_round)] }
def SeedChosenSaid : Prop := seedChosenRow.holds Tryd.pinned (OpenSpec.ofChange seedChosenSpec)

/-- ITS FALSE NEIGHBOUR: 'it returns false'. Refute it at one input. -/
def seedChosenWrong : ChangeSpec := { name := "seedChosen", fn := fun _ => fun
  | [d] => { results := [.lit (.bool false)], args := [d] }
  | _ => none }
def SeedChosenWrongFalsely : Prop := seedChosenRow.holds Tryd.pinned (OpenSpec.ofChange seedChosenWrong)

/- THE SECOND FORM. 'bulk': how many values and letters a reading holds, each counted each time it is reached (what is shared counts as often as it is met; a slice's spare places count too). A statement '..UptoSaid' is the law's where the arguments, and the package variables that the reading takes, are together of bulk at most 1048576: NARROWER than '..Said'. Prove '..Said' where nothing that the law and all that it calls make is longer than what came in: it says more and counts as full. Else prove '..UptoSaid'. A law counts once. -/
mutual
def uptoBulk {H : Type} : DataW H → Nat
  | .lit (.string bytes) => bytes.length + 1
  | .lit _ => 1
  | .nil => 1
  | .ptr d => uptoBulk d + 1
  | .slice elems spare => uptoBulkAll elems + uptoBulkAll spare + 1
  | .agg parts => uptoBulkAll parts + 1
  | .iface _ d => uptoBulk d + 1
  | .map entries => uptoBulkEntries entries + 1
  | .held _ => 1
def uptoBulkAll {H : Type} : List (DataW H) → Nat
  | [] => 0
  | d :: r => uptoBulk d + uptoBulkAll r
def uptoBulkEntries {H : Type} : List (Lit × DataW H) → Nat
  | [] => 0
  | x :: r => uptoBulkEntry x + uptoBulkEntries r
def uptoBulkEntry {H : Type} : Lit × DataW H → Nat
  | (.string bytes, d) => bytes.length + uptoBulk d + 1
  | (_, d) => uptoBulk d + 1
 end
def uptoSmall : (H : Type) → List (DataW H) → Bool := fun _ ds => decide (uptoBulkAll ds ≤ 1048576)
def OpenSpec.upto (s : _root_.Go.ChangeSpec) : _root_.Go.OpenSpec := { _root_.Go.OpenSpec.ofChange s with cond := some uptoSmall }

/-- 'latecomerlaw06.SeedMatchesReference', WHERE WHAT IT READS IS OF BULK AT MOST 1048576: true; the input reads as it did. -/
def seedMatchesReferenceUptoRow : OpenClaim := { program := "ytfdmmobadmmhdaadoor", sum := "f445f1a15765084a2d9a6ba0327d914f02b813180313a53bf3130004e2bc169b", func := "latecomer/latecomerlaw06.SeedMatchesReference", spec := "seedMatchesReference", unfollowed := true, recurses := true, named := ["latecomer/digest.round"], apart := false, laid := [("latecomer/digest.round", laid_latecomer_digest_round)], narrowed := true }
def SeedMatchesReferenceUptoSaid : Prop := seedMatchesReferenceUptoRow.holds Tryd.pinned (OpenSpec.upto seedMatchesReferenceSpec)

/-- 'latecomerlaw06.SeedListsMatchReference', WHERE WHAT IT READS IS OF BULK AT MOST 1048576: true; the input reads as it did. -/
def seedListsMatchReferenceUptoRow : OpenClaim := { program := "ytfdmmobadmmhdaadoor", sum := "f445f1a15765084a2d9a6ba0327d914f02b813180313a53bf3130004e2bc169b", func := "latecomer/latecomerlaw06.SeedListsMatchReference", spec := "seedListsMatchReference", unfollowed := true, recurses := true, named := ["latecomer/digest.round"], apart := false, laid := [("latecomer/digest.round", laid_latecomer_digest_round)], narrowed := true }
def SeedListsMatchReferenceUptoSaid : Prop := seedListsMatchReferenceUptoRow.holds Tryd.pinned (OpenSpec.upto seedListsMatchReferenceSpec)

/-- 'latecomerlaw06.SeedFair', WHERE WHAT IT READS IS OF BULK AT MOST 1048576: true; the input reads as it did. -/
def seedFairUptoRow : OpenClaim := { program := "ytfdmmobadmmhdaadoor", sum := "f445f1a15765084a2d9a6ba0327d914f02b813180313a53bf3130004e2bc169b", func := "latecomer/latecomerlaw06.SeedFair", spec := "seedFair", unfollowed := true, recurses := true, named := ["latecomer/digest.round"], apart := false, laid := [("latecomer/digest.round", laid_latecomer_digest_round)], narrowed := true }
def SeedFairUptoSaid : Prop := seedFairUptoRow.holds Tryd.pinned (OpenSpec.upto seedFairSpec)

/-- 'latecomerlaw06.SeedDrawn', WHERE WHAT IT READS IS OF BULK AT MOST 1048576: true; the input reads as it did. -/
def seedDrawnUptoRow : OpenClaim := { program := "ytfdmmobadmmhdaadoor", sum := "f445f1a15765084a2d9a6ba0327d914f02b813180313a53bf3130004e2bc169b", func := "latecomer/latecomerlaw06.SeedDrawn", spec := "seedDrawn", unfollowed := true, recurses := true, named := ["latecomer/digest.round"], apart := false, laid := [("latecomer/digest.round", laid_latecomer_digest_round)], narrowed := true }
def SeedDrawnUptoSaid : Prop := seedDrawnUptoRow.holds Tryd.pinned (OpenSpec.upto seedDrawnSpec)

/-- 'latecomerlaw06.SeedShuffled', WHERE WHAT IT READS IS OF BULK AT MOST 1048576: true; the input reads as it did. -/
def seedShuffledUptoRow : OpenClaim := { program := "ytfdmmobadmmhdaadoor", sum := "f445f1a15765084a2d9a6ba0327d914f02b813180313a53bf3130004e2bc169b", func := "latecomer/latecomerlaw06.SeedShuffled", spec := "seedShuffled", unfollowed := true, recurses := true, named := ["latecomer/digest.round"], apart := false, laid := [("latecomer/digest.round", laid_latecomer_digest_round)], narrowed := true }
def SeedShuffledUptoSaid : Prop := seedShuffledUptoRow.holds Tryd.pinned (OpenSpec.upto seedShuffledSpec)

/-- 'latecomerlaw06.SeedSampled', WHERE WHAT IT READS IS OF BULK AT MOST 1048576: true; the input reads as it did. -/
def seedSampledUptoRow : OpenClaim := { program := "ytfdmmobadmmhdaadoor", sum := "f445f1a15765084a2d9a6ba0327d914f02b813180313a53bf3130004e2bc169b", func := "latecomer/latecomerlaw06.SeedSampled", spec := "seedSampled", unfollowed := true, recurses := true, named := ["latecomer/digest.round"], apart := false, laid := [("latecomer/digest.round", laid_latecomer_digest_round)], narrowed := true }
def SeedSampledUptoSaid : Prop := seedSampledUptoRow.holds Tryd.pinned (OpenSpec.upto seedSampledSpec)

/-- 'latecomerlaw06.SeedChosen', WHERE WHAT IT READS IS OF BULK AT MOST 1048576: true; the input reads as it did. -/
def seedChosenUptoRow : OpenClaim := { program := "ytfdmmobadmmhdaadoor", sum := "f445f1a15765084a2d9a6ba0327d914f02b813180313a53bf3130004e2bc169b", func := "latecomer/latecomerlaw06.SeedChosen", spec := "seedChosen", unfollowed := true, recurses := true, named := ["latecomer/digest.round"], apart := false, laid := [("latecomer/digest.round", laid_latecomer_digest_round)], narrowed := true }
def SeedChosenUptoSaid : Prop := seedChosenUptoRow.holds Tryd.pinned (OpenSpec.upto seedChosenSpec)

end Rows
end Go.Proofs.YtfdmmobadmmhdaaDoor
