/-
  No cell of these rows narrows 'for every input' (looked for: loops, veiled, ifaces, maps, wideKeys, modest, calm, conditions, laid).
  DERIVED. THE GIVEN ROWS OF THIS SEAT. 6 by the template 'for every input the law returns true; each argument reads behind the call as it read before'; 0 by the template 'total and deterministic' (their statements: YtohoeakhnnojjaaTotals.lean).
  GIVEN WITH THE SEED: the statements are not yours to turn. If you find one false, say at which input.
  Laid BY PROGRAM, IN A SANDBOX (cutbox-rows.mjs): the forced cells as the released guide's own fill.sh prints them over the translation 98d237a82a7f32bf… (all of the seat's roots in one cut). By AI agents, Wed Nov 11 2026. No macro, syntax, notation, axiom, sorry.
-/
import Derived.Test.YtohoeakhnnojjaaChecked
import GoSem.Claim
import GoSem.ClaimJoined
import GoSem.ClaimMapViews
import Derived.JoinedTies
import Derived.KernelRfl
namespace Go.Proofs.Ytohoeakhnnojjaa
/- THE CELL 'sum', in the pinned program and in every row, IS THE sha256 OF THE DUMP (.gsa) THAT YtohoeakhnnojjaaProg.lean LOADS. Nothing in Lean hashes anything: it is a label: what it is worth is what the hold of that sum in a sandbox is worth. -/
noncomputable def Try.pinned : Pinned := { name := "ytohoeakhnnojjaa", sum := "98d237a82a7f32bf980049ca73ccc022480e033578fb470e6142637a303e72ab", checked := Try.checked }
namespace Rows
def none {H : Type} : Left H := { results := [], args := [] }

/-- 'inspeximuslaw14.PostActs': WHATEVER THE INPUT: true; the input reads as it did. -/
def postActsSpec : ChangeSpec := { name := "postActs", fn := fun _ => fun
  | [d] => { results := [.lit (.bool true)], args := [d] }
  | _ => none }
def postActsRow : OpenClaim := { program := "ytohoeakhnnojjaa", sum := "98d237a82a7f32bf980049ca73ccc022480e033578fb470e6142637a303e72ab", func := "inspeximus/inspeximuslaw14.PostActs", spec := "postActs", unfollowed := true, recurses := true, apart := false }
def PostActsSaid : Prop := postActsRow.holds Try.pinned (OpenSpec.ofChange postActsSpec)

/-- ITS FALSE NEIGHBOUR: 'it returns false'. Refute it at one input. -/
def postActsWrong : ChangeSpec := { name := "postActs", fn := fun _ => fun
  | [d] => { results := [.lit (.bool false)], args := [d] }
  | _ => none }
def PostActsWrongFalsely : Prop := postActsRow.holds Try.pinned (OpenSpec.ofChange postActsWrong)

/-- 'inspeximuslaw14.PostOrder': WHATEVER THE INPUT: true; the input reads as it did. -/
def postOrderSpec : ChangeSpec := { name := "postOrder", fn := fun _ => fun
  | [d] => { results := [.lit (.bool true)], args := [d] }
  | _ => none }
def postOrderRow : OpenClaim := { program := "ytohoeakhnnojjaa", sum := "98d237a82a7f32bf980049ca73ccc022480e033578fb470e6142637a303e72ab", func := "inspeximus/inspeximuslaw14.PostOrder", spec := "postOrder", unfollowed := true, recurses := true, apart := false }
def PostOrderSaid : Prop := postOrderRow.holds Try.pinned (OpenSpec.ofChange postOrderSpec)

/-- ITS FALSE NEIGHBOUR: 'it returns false'. Refute it at one input. -/
def postOrderWrong : ChangeSpec := { name := "postOrder", fn := fun _ => fun
  | [d] => { results := [.lit (.bool false)], args := [d] }
  | _ => none }
def PostOrderWrongFalsely : Prop := postOrderRow.holds Try.pinned (OpenSpec.ofChange postOrderWrong)

/-- 'inspeximuslaw14.PostSent': WHATEVER THE INPUT: true; the input reads as it did. -/
def postSentSpec : ChangeSpec := { name := "postSent", fn := fun _ => fun
  | [d] => { results := [.lit (.bool true)], args := [d] }
  | _ => none }
def postSentRow : OpenClaim := { program := "ytohoeakhnnojjaa", sum := "98d237a82a7f32bf980049ca73ccc022480e033578fb470e6142637a303e72ab", func := "inspeximus/inspeximuslaw14.PostSent", spec := "postSent", unfollowed := true, recurses := true, apart := false }
def PostSentSaid : Prop := postSentRow.holds Try.pinned (OpenSpec.ofChange postSentSpec)

/-- ITS FALSE NEIGHBOUR: 'it returns false'. Refute it at one input. -/
def postSentWrong : ChangeSpec := { name := "postSent", fn := fun _ => fun
  | [d] => { results := [.lit (.bool false)], args := [d] }
  | _ => none }
def PostSentWrongFalsely : Prop := postSentRow.holds Try.pinned (OpenSpec.ofChange postSentWrong)

/-- 'inspeximuslaw14.PostRounds': WHATEVER THE INPUT: true; the input reads as it did. -/
def postRoundsSpec : ChangeSpec := { name := "postRounds", fn := fun _ => fun
  | [d] => { results := [.lit (.bool true)], args := [d] }
  | _ => none }
def postRoundsRow : OpenClaim := { program := "ytohoeakhnnojjaa", sum := "98d237a82a7f32bf980049ca73ccc022480e033578fb470e6142637a303e72ab", func := "inspeximus/inspeximuslaw14.PostRounds", spec := "postRounds", unfollowed := true, recurses := true, apart := false }
def PostRoundsSaid : Prop := postRoundsRow.holds Try.pinned (OpenSpec.ofChange postRoundsSpec)

/-- ITS FALSE NEIGHBOUR: 'it returns false'. Refute it at one input. -/
def postRoundsWrong : ChangeSpec := { name := "postRounds", fn := fun _ => fun
  | [d] => { results := [.lit (.bool false)], args := [d] }
  | _ => none }
def PostRoundsWrongFalsely : Prop := postRoundsRow.holds Try.pinned (OpenSpec.ofChange postRoundsWrong)

/-- 'inspeximuslaw14.PostTwice': WHATEVER THE INPUT: true; the input reads as it did. -/
def postTwiceSpec : ChangeSpec := { name := "postTwice", fn := fun _ => fun
  | [d1, d2] => { results := [.lit (.bool true)], args := [d1, d2] }
  | _ => none }
def postTwiceRow : OpenClaim := { program := "ytohoeakhnnojjaa", sum := "98d237a82a7f32bf980049ca73ccc022480e033578fb470e6142637a303e72ab", func := "inspeximus/inspeximuslaw14.PostTwice", spec := "postTwice", unfollowed := true, recurses := true, apart := false }
def PostTwiceSaid : Prop := postTwiceRow.holds Try.pinned (OpenSpec.ofChange postTwiceSpec)

/-- ITS FALSE NEIGHBOUR: 'it returns false'. Refute it at one input. -/
def postTwiceWrong : ChangeSpec := { name := "postTwice", fn := fun _ => fun
  | [d1, d2] => { results := [.lit (.bool false)], args := [d1, d2] }
  | _ => none }
def PostTwiceWrongFalsely : Prop := postTwiceRow.holds Try.pinned (OpenSpec.ofChange postTwiceWrong)

/-- 'inspeximuslaw14.PostEmpty': WHATEVER THE INPUT: true; the input reads as it did. -/
def postEmptySpec : ChangeSpec := { name := "postEmpty", fn := fun _ => fun
  | [d] => { results := [.lit (.bool true)], args := [d] }
  | _ => none }
def postEmptyRow : OpenClaim := { program := "ytohoeakhnnojjaa", sum := "98d237a82a7f32bf980049ca73ccc022480e033578fb470e6142637a303e72ab", func := "inspeximus/inspeximuslaw14.PostEmpty", spec := "postEmpty", unfollowed := true, recurses := true, apart := false }
def PostEmptySaid : Prop := postEmptyRow.holds Try.pinned (OpenSpec.ofChange postEmptySpec)

/-- ITS FALSE NEIGHBOUR: 'it returns false'. Refute it at one input. -/
def postEmptyWrong : ChangeSpec := { name := "postEmpty", fn := fun _ => fun
  | [d] => { results := [.lit (.bool false)], args := [d] }
  | _ => none }
def PostEmptyWrongFalsely : Prop := postEmptyRow.holds Try.pinned (OpenSpec.ofChange postEmptyWrong)

/- THE SECOND FORM. 'bulk': how many values and letters a reading holds, each counted each time it is reached (what is shared counts as often as it is met; a slice's spare places count too). A statement '..UptoSaid' is the law's where the arguments, and the package variables that the reading takes, are together of bulk at most 1048576: NARROWER than '..Said'. Prove '..Said' where nothing that the law and all that it calls make is longer than what came in: it says more and counts as full. Else prove '..UptoSaid'. A law counts once. -/
mutual
def uptoBulk {H : Type} : DataW H → Nat
  | .lit (.string bytes) => bytes.length + 1
  | .lit _ => 1
  | .nil => 1
  | .ptr d => uptoBulk d + 1
  | .slice elems spare => uptoBulkAll elems + uptoBulkAll spare + 1
  | .agg parts => uptoBulkAll parts + 1
  | .iface _ d => uptoBulk d + 1
  | .map entries => uptoBulkEntries entries + 1
  | .held _ => 1
def uptoBulkAll {H : Type} : List (DataW H) → Nat
  | [] => 0
  | d :: r => uptoBulk d + uptoBulkAll r
def uptoBulkEntries {H : Type} : List (Lit × DataW H) → Nat
  | [] => 0
  | x :: r => uptoBulkEntry x + uptoBulkEntries r
def uptoBulkEntry {H : Type} : Lit × DataW H → Nat
  | (.string bytes, d) => bytes.length + uptoBulk d + 1
  | (_, d) => uptoBulk d + 1
 end
def uptoSmall : (H : Type) → List (DataW H) → Bool := fun _ ds => decide (uptoBulkAll ds ≤ 1048576)
def OpenSpec.upto (s : _root_.Go.ChangeSpec) : _root_.Go.OpenSpec := { _root_.Go.OpenSpec.ofChange s with cond := some uptoSmall }

/-- 'inspeximuslaw14.PostActs', WHERE WHAT IT READS IS OF BULK AT MOST 1048576: true; the input reads as it did. -/
def postActsUptoRow : OpenClaim := { program := "ytohoeakhnnojjaa", sum := "98d237a82a7f32bf980049ca73ccc022480e033578fb470e6142637a303e72ab", func := "inspeximus/inspeximuslaw14.PostActs", spec := "postActs", unfollowed := true, recurses := true, apart := false, narrowed := true }
def PostActsUptoSaid : Prop := postActsUptoRow.holds Try.pinned (OpenSpec.upto postActsSpec)

/-- 'inspeximuslaw14.PostOrder', WHERE WHAT IT READS IS OF BULK AT MOST 1048576: true; the input reads as it did. -/
def postOrderUptoRow : OpenClaim := { program := "ytohoeakhnnojjaa", sum := "98d237a82a7f32bf980049ca73ccc022480e033578fb470e6142637a303e72ab", func := "inspeximus/inspeximuslaw14.PostOrder", spec := "postOrder", unfollowed := true, recurses := true, apart := false, narrowed := true }
def PostOrderUptoSaid : Prop := postOrderUptoRow.holds Try.pinned (OpenSpec.upto postOrderSpec)

/-- 'inspeximuslaw14.PostSent', WHERE WHAT IT READS IS OF BULK AT MOST 1048576: true; the input reads as it did. -/
def postSentUptoRow : OpenClaim := { program := "ytohoeakhnnojjaa", sum := "98d237a82a7f32bf980049ca73ccc022480e033578fb470e6142637a303e72ab", func := "inspeximus/inspeximuslaw14.PostSent", spec := "postSent", unfollowed := true, recurses := true, apart := false, narrowed := true }
def PostSentUptoSaid : Prop := postSentUptoRow.holds Try.pinned (OpenSpec.upto postSentSpec)

/-- 'inspeximuslaw14.PostRounds', WHERE WHAT IT READS IS OF BULK AT MOST 1048576: true; the input reads as it did. -/
def postRoundsUptoRow : OpenClaim := { program := "ytohoeakhnnojjaa", sum := "98d237a82a7f32bf980049ca73ccc022480e033578fb470e6142637a303e72ab", func := "inspeximus/inspeximuslaw14.PostRounds", spec := "postRounds", unfollowed := true, recurses := true, apart := false, narrowed := true }
def PostRoundsUptoSaid : Prop := postRoundsUptoRow.holds Try.pinned (OpenSpec.upto postRoundsSpec)

/-- 'inspeximuslaw14.PostTwice', WHERE WHAT IT READS IS OF BULK AT MOST 1048576: true; the input reads as it did. -/
def postTwiceUptoRow : OpenClaim := { program := "ytohoeakhnnojjaa", sum := "98d237a82a7f32bf980049ca73ccc022480e033578fb470e6142637a303e72ab", func := "inspeximus/inspeximuslaw14.PostTwice", spec := "postTwice", unfollowed := true, recurses := true, apart := false, narrowed := true }
def PostTwiceUptoSaid : Prop := postTwiceUptoRow.holds Try.pinned (OpenSpec.upto postTwiceSpec)

/-- 'inspeximuslaw14.PostEmpty', WHERE WHAT IT READS IS OF BULK AT MOST 1048576: true; the input reads as it did. -/
def postEmptyUptoRow : OpenClaim := { program := "ytohoeakhnnojjaa", sum := "98d237a82a7f32bf980049ca73ccc022480e033578fb470e6142637a303e72ab", func := "inspeximus/inspeximuslaw14.PostEmpty", spec := "postEmpty", unfollowed := true, recurses := true, apart := false, narrowed := true }
def PostEmptyUptoSaid : Prop := postEmptyUptoRow.holds Try.pinned (OpenSpec.upto postEmptySpec)

end Rows
end Go.Proofs.Ytohoeakhnnojjaa
