/-
  No cell of these rows narrows 'for every input' (looked for: loops, veiled, ifaces, maps, wideKeys, modest, calm, conditions, laid).
  DERIVED. THE GIVEN ROWS OF THIS SEAT. 10 by the template 'for every input the law returns true; each argument reads behind the call as it read before'; 0 by the template 'total and deterministic' (their statements: YtklmhegmombegaaTotals.lean).
  GIVEN WITH THE SEED: the statements are not yours to turn. If you find one false, say at which input.
  Laid BY PROGRAM, IN A SANDBOX (cutbox-rows.mjs): the forced cells as the released guide's own fill.sh prints them over the translation e19f5ddf7d9c8bb2… (all of the seat's roots in one cut). By AI agents, Wed Nov 11 2026. No macro, syntax, notation, axiom, sorry.
-/
import Derived.Test.YtklmhegmombegaaChecked
import GoSem.Claim
import GoSem.ClaimJoined
import GoSem.ClaimMapViews
import Derived.JoinedTies
import Derived.KernelRfl
namespace Go.Proofs.Ytklmhegmombegaa
/- THE CELL 'sum', in the pinned program and in every row, IS THE sha256 OF THE DUMP (.gsa) THAT YtklmhegmombegaaProg.lean LOADS. Nothing in Lean hashes anything: it is a label: what it is worth is what the hold of that sum in a sandbox is worth. -/
noncomputable def Try.pinned : Pinned := { name := "ytklmhegmombegaa", sum := "e19f5ddf7d9c8bb2f6c0cf69c5444ccfdc5d4407a1f6086d39110ebe9550e69d", checked := Try.checked }
namespace Rows
def none {H : Type} : Left H := { results := [], args := [] }

/-- 'inspeximuslaw11.SagaMay': WHATEVER THE INPUT: true; the input reads as it did. -/
def sagaMaySpec : ChangeSpec := { name := "sagaMay", fn := fun _ => fun
  | [d] => { results := [.lit (.bool true)], args := [d] }
  | _ => none }
def sagaMayRow : OpenClaim := { program := "ytklmhegmombegaa", sum := "e19f5ddf7d9c8bb2f6c0cf69c5444ccfdc5d4407a1f6086d39110ebe9550e69d", func := "inspeximus/inspeximuslaw11.SagaMay", spec := "sagaMay", unfollowed := true, recurses := true, apart := false }
def SagaMaySaid : Prop := sagaMayRow.holds Try.pinned (OpenSpec.ofChange sagaMaySpec)

/-- ITS FALSE NEIGHBOUR: 'it returns false'. Refute it at one input. -/
def sagaMayWrong : ChangeSpec := { name := "sagaMay", fn := fun _ => fun
  | [d] => { results := [.lit (.bool false)], args := [d] }
  | _ => none }
def SagaMayWrongFalsely : Prop := sagaMayRow.holds Try.pinned (OpenSpec.ofChange sagaMayWrong)

/-- 'inspeximuslaw11.SagaEnds': WHATEVER THE INPUT: true; the input reads as it did. -/
def sagaEndsSpec : ChangeSpec := { name := "sagaEnds", fn := fun _ => fun
  | [d1, d2, d3] => { results := [.lit (.bool true)], args := [d1, d2, d3] }
  | _ => none }
def sagaEndsRow : OpenClaim := { program := "ytklmhegmombegaa", sum := "e19f5ddf7d9c8bb2f6c0cf69c5444ccfdc5d4407a1f6086d39110ebe9550e69d", func := "inspeximus/inspeximuslaw11.SagaEnds", spec := "sagaEnds", unfollowed := true, recurses := true, apart := false }
def SagaEndsSaid : Prop := sagaEndsRow.holds Try.pinned (OpenSpec.ofChange sagaEndsSpec)

/-- ITS FALSE NEIGHBOUR: 'it returns false'. Refute it at one input. -/
def sagaEndsWrong : ChangeSpec := { name := "sagaEnds", fn := fun _ => fun
  | [d1, d2, d3] => { results := [.lit (.bool false)], args := [d1, d2, d3] }
  | _ => none }
def SagaEndsWrongFalsely : Prop := sagaEndsRow.holds Try.pinned (OpenSpec.ofChange sagaEndsWrong)

/-- 'inspeximuslaw11.SagaGood': WHATEVER THE INPUT: true; the input reads as it did. -/
def sagaGoodSpec : ChangeSpec := { name := "sagaGood", fn := fun _ => fun
  | [d1, d2, d3] => { results := [.lit (.bool true)], args := [d1, d2, d3] }
  | _ => none }
def sagaGoodRow : OpenClaim := { program := "ytklmhegmombegaa", sum := "e19f5ddf7d9c8bb2f6c0cf69c5444ccfdc5d4407a1f6086d39110ebe9550e69d", func := "inspeximus/inspeximuslaw11.SagaGood", spec := "sagaGood", unfollowed := true, recurses := true, apart := false }
def SagaGoodSaid : Prop := sagaGoodRow.holds Try.pinned (OpenSpec.ofChange sagaGoodSpec)

/-- ITS FALSE NEIGHBOUR: 'it returns false'. Refute it at one input. -/
def sagaGoodWrong : ChangeSpec := { name := "sagaGood", fn := fun _ => fun
  | [d1, d2, d3] => { results := [.lit (.bool false)], args := [d1, d2, d3] }
  | _ => none }
def SagaGoodWrongFalsely : Prop := sagaGoodRow.holds Try.pinned (OpenSpec.ofChange sagaGoodWrong)

/-- 'inspeximuslaw11.SagaStays': WHATEVER THE INPUT: true; the input reads as it did. -/
def sagaStaysSpec : ChangeSpec := { name := "sagaStays", fn := fun _ => fun
  | [d1, d2, d3, d4] => { results := [.lit (.bool true)], args := [d1, d2, d3, d4] }
  | _ => none }
def sagaStaysRow : OpenClaim := { program := "ytklmhegmombegaa", sum := "e19f5ddf7d9c8bb2f6c0cf69c5444ccfdc5d4407a1f6086d39110ebe9550e69d", func := "inspeximus/inspeximuslaw11.SagaStays", spec := "sagaStays", unfollowed := true, recurses := true, apart := false }
def SagaStaysSaid : Prop := sagaStaysRow.holds Try.pinned (OpenSpec.ofChange sagaStaysSpec)

/-- ITS FALSE NEIGHBOUR: 'it returns false'. Refute it at one input. -/
def sagaStaysWrong : ChangeSpec := { name := "sagaStays", fn := fun _ => fun
  | [d1, d2, d3, d4] => { results := [.lit (.bool false)], args := [d1, d2, d3, d4] }
  | _ => none }
def SagaStaysWrongFalsely : Prop := sagaStaysRow.holds Try.pinned (OpenSpec.ofChange sagaStaysWrong)

/-- 'inspeximuslaw11.SagaTries': WHATEVER THE INPUT: true; the input reads as it did. -/
def sagaTriesSpec : ChangeSpec := { name := "sagaTries", fn := fun _ => fun
  | [d1, d2] => { results := [.lit (.bool true)], args := [d1, d2] }
  | _ => none }
def sagaTriesRow : OpenClaim := { program := "ytklmhegmombegaa", sum := "e19f5ddf7d9c8bb2f6c0cf69c5444ccfdc5d4407a1f6086d39110ebe9550e69d", func := "inspeximus/inspeximuslaw11.SagaTries", spec := "sagaTries", unfollowed := true, recurses := true, apart := false }
def SagaTriesSaid : Prop := sagaTriesRow.holds Try.pinned (OpenSpec.ofChange sagaTriesSpec)

/-- ITS FALSE NEIGHBOUR: 'it returns false'. Refute it at one input. -/
def sagaTriesWrong : ChangeSpec := { name := "sagaTries", fn := fun _ => fun
  | [d1, d2] => { results := [.lit (.bool false)], args := [d1, d2] }
  | _ => none }
def SagaTriesWrongFalsely : Prop := sagaTriesRow.holds Try.pinned (OpenSpec.ofChange sagaTriesWrong)

/-- 'inspeximuslaw12.BookReports': WHATEVER THE INPUT: true; the input reads as it did. -/
def bookReportsSpec : ChangeSpec := { name := "bookReports", fn := fun _ => fun
  | [d1, d2, d3, d4] => { results := [.lit (.bool true)], args := [d1, d2, d3, d4] }
  | _ => none }
def bookReportsRow : OpenClaim := { program := "ytklmhegmombegaa", sum := "e19f5ddf7d9c8bb2f6c0cf69c5444ccfdc5d4407a1f6086d39110ebe9550e69d", func := "inspeximus/inspeximuslaw12.BookReports", spec := "bookReports", unfollowed := true, recurses := true, apart := false }
def BookReportsSaid : Prop := bookReportsRow.holds Try.pinned (OpenSpec.ofChange bookReportsSpec)

/-- ITS FALSE NEIGHBOUR: 'it returns false'. Refute it at one input. -/
def bookReportsWrong : ChangeSpec := { name := "bookReports", fn := fun _ => fun
  | [d1, d2, d3, d4] => { results := [.lit (.bool false)], args := [d1, d2, d3, d4] }
  | _ => none }
def BookReportsWrongFalsely : Prop := bookReportsRow.holds Try.pinned (OpenSpec.ofChange bookReportsWrong)

/-- 'inspeximuslaw12.BookApart': WHATEVER THE INPUT: true; the input reads as it did. -/
def bookApartSpec : ChangeSpec := { name := "bookApart", fn := fun _ => fun
  | [d1, d2] => { results := [.lit (.bool true)], args := [d1, d2] }
  | _ => none }
def bookApartRow : OpenClaim := { program := "ytklmhegmombegaa", sum := "e19f5ddf7d9c8bb2f6c0cf69c5444ccfdc5d4407a1f6086d39110ebe9550e69d", func := "inspeximus/inspeximuslaw12.BookApart", spec := "bookApart", unfollowed := true, recurses := true, apart := false }
def BookApartSaid : Prop := bookApartRow.holds Try.pinned (OpenSpec.ofChange bookApartSpec)

/-- ITS FALSE NEIGHBOUR: 'it returns false'. Refute it at one input. -/
def bookApartWrong : ChangeSpec := { name := "bookApart", fn := fun _ => fun
  | [d1, d2] => { results := [.lit (.bool false)], args := [d1, d2] }
  | _ => none }
def BookApartWrongFalsely : Prop := bookApartRow.holds Try.pinned (OpenSpec.ofChange bookApartWrong)

/-- 'inspeximuslaw12.BookFewer': WHATEVER THE INPUT: true; the input reads as it did. -/
def bookFewerSpec : ChangeSpec := { name := "bookFewer", fn := fun _ => fun
  | [d1, d2, d3] => { results := [.lit (.bool true)], args := [d1, d2, d3] }
  | _ => none }
def bookFewerRow : OpenClaim := { program := "ytklmhegmombegaa", sum := "e19f5ddf7d9c8bb2f6c0cf69c5444ccfdc5d4407a1f6086d39110ebe9550e69d", func := "inspeximus/inspeximuslaw12.BookFewer", spec := "bookFewer", unfollowed := true, recurses := true, apart := false }
def BookFewerSaid : Prop := bookFewerRow.holds Try.pinned (OpenSpec.ofChange bookFewerSpec)

/-- ITS FALSE NEIGHBOUR: 'it returns false'. Refute it at one input. -/
def bookFewerWrong : ChangeSpec := { name := "bookFewer", fn := fun _ => fun
  | [d1, d2, d3] => { results := [.lit (.bool false)], args := [d1, d2, d3] }
  | _ => none }
def BookFewerWrongFalsely : Prop := bookFewerRow.holds Try.pinned (OpenSpec.ofChange bookFewerWrong)

/-- 'inspeximuslaw12.BookTwice': WHATEVER THE INPUT: true; the input reads as it did. -/
def bookTwiceSpec : ChangeSpec := { name := "bookTwice", fn := fun _ => fun
  | [d1, d2] => { results := [.lit (.bool true)], args := [d1, d2] }
  | _ => none }
def bookTwiceRow : OpenClaim := { program := "ytklmhegmombegaa", sum := "e19f5ddf7d9c8bb2f6c0cf69c5444ccfdc5d4407a1f6086d39110ebe9550e69d", func := "inspeximus/inspeximuslaw12.BookTwice", spec := "bookTwice", unfollowed := true, recurses := true, apart := false }
def BookTwiceSaid : Prop := bookTwiceRow.holds Try.pinned (OpenSpec.ofChange bookTwiceSpec)

/-- ITS FALSE NEIGHBOUR: 'it returns false'. Refute it at one input. -/
def bookTwiceWrong : ChangeSpec := { name := "bookTwice", fn := fun _ => fun
  | [d1, d2] => { results := [.lit (.bool false)], args := [d1, d2] }
  | _ => none }
def BookTwiceWrongFalsely : Prop := bookTwiceRow.holds Try.pinned (OpenSpec.ofChange bookTwiceWrong)

/-- 'inspeximuslaw12.BookParts': WHATEVER THE INPUT: true; the input reads as it did. -/
def bookPartsSpec : ChangeSpec := { name := "bookParts", fn := fun _ => fun
  | [d1, d2] => { results := [.lit (.bool true)], args := [d1, d2] }
  | _ => none }
def bookPartsRow : OpenClaim := { program := "ytklmhegmombegaa", sum := "e19f5ddf7d9c8bb2f6c0cf69c5444ccfdc5d4407a1f6086d39110ebe9550e69d", func := "inspeximus/inspeximuslaw12.BookParts", spec := "bookParts", unfollowed := true, recurses := true, apart := false }
def BookPartsSaid : Prop := bookPartsRow.holds Try.pinned (OpenSpec.ofChange bookPartsSpec)

/-- ITS FALSE NEIGHBOUR: 'it returns false'. Refute it at one input. -/
def bookPartsWrong : ChangeSpec := { name := "bookParts", fn := fun _ => fun
  | [d1, d2] => { results := [.lit (.bool false)], args := [d1, d2] }
  | _ => none }
def BookPartsWrongFalsely : Prop := bookPartsRow.holds Try.pinned (OpenSpec.ofChange bookPartsWrong)

/- THE SECOND FORM. 'bulk': how many values and letters a reading holds, each counted each time it is reached (what is shared counts as often as it is met; a slice's spare places count too). A statement '..UptoSaid' is the law's where the arguments, and the package variables that the reading takes, are together of bulk at most 1048576: NARROWER than '..Said'. Prove '..Said' where nothing that the law and all that it calls make is longer than what came in: it says more and counts as full. Else prove '..UptoSaid'. A law counts once. -/
mutual
def uptoBulk {H : Type} : DataW H → Nat
  | .lit (.string bytes) => bytes.length + 1
  | .lit _ => 1
  | .nil => 1
  | .ptr d => uptoBulk d + 1
  | .slice elems spare => uptoBulkAll elems + uptoBulkAll spare + 1
  | .agg parts => uptoBulkAll parts + 1
  | .iface _ d => uptoBulk d + 1
  | .map entries => uptoBulkEntries entries + 1
  | .held _ => 1
def uptoBulkAll {H : Type} : List (DataW H) → Nat
  | [] => 0
  | d :: r => uptoBulk d + uptoBulkAll r
def uptoBulkEntries {H : Type} : List (Lit × DataW H) → Nat
  | [] => 0
  | x :: r => uptoBulkEntry x + uptoBulkEntries r
def uptoBulkEntry {H : Type} : Lit × DataW H → Nat
  | (.string bytes, d) => bytes.length + uptoBulk d + 1
  | (_, d) => uptoBulk d + 1
 end
def uptoSmall : (H : Type) → List (DataW H) → Bool := fun _ ds => decide (uptoBulkAll ds ≤ 1048576)
def OpenSpec.upto (s : _root_.Go.ChangeSpec) : _root_.Go.OpenSpec := { _root_.Go.OpenSpec.ofChange s with cond := some uptoSmall }

/-- 'inspeximuslaw11.SagaMay', WHERE WHAT IT READS IS OF BULK AT MOST 1048576: true; the input reads as it did. -/
def sagaMayUptoRow : OpenClaim := { program := "ytklmhegmombegaa", sum := "e19f5ddf7d9c8bb2f6c0cf69c5444ccfdc5d4407a1f6086d39110ebe9550e69d", func := "inspeximus/inspeximuslaw11.SagaMay", spec := "sagaMay", unfollowed := true, recurses := true, apart := false, narrowed := true }
def SagaMayUptoSaid : Prop := sagaMayUptoRow.holds Try.pinned (OpenSpec.upto sagaMaySpec)

/-- 'inspeximuslaw11.SagaEnds', WHERE WHAT IT READS IS OF BULK AT MOST 1048576: true; the input reads as it did. -/
def sagaEndsUptoRow : OpenClaim := { program := "ytklmhegmombegaa", sum := "e19f5ddf7d9c8bb2f6c0cf69c5444ccfdc5d4407a1f6086d39110ebe9550e69d", func := "inspeximus/inspeximuslaw11.SagaEnds", spec := "sagaEnds", unfollowed := true, recurses := true, apart := false, narrowed := true }
def SagaEndsUptoSaid : Prop := sagaEndsUptoRow.holds Try.pinned (OpenSpec.upto sagaEndsSpec)

/-- 'inspeximuslaw11.SagaGood', WHERE WHAT IT READS IS OF BULK AT MOST 1048576: true; the input reads as it did. -/
def sagaGoodUptoRow : OpenClaim := { program := "ytklmhegmombegaa", sum := "e19f5ddf7d9c8bb2f6c0cf69c5444ccfdc5d4407a1f6086d39110ebe9550e69d", func := "inspeximus/inspeximuslaw11.SagaGood", spec := "sagaGood", unfollowed := true, recurses := true, apart := false, narrowed := true }
def SagaGoodUptoSaid : Prop := sagaGoodUptoRow.holds Try.pinned (OpenSpec.upto sagaGoodSpec)

/-- 'inspeximuslaw11.SagaStays', WHERE WHAT IT READS IS OF BULK AT MOST 1048576: true; the input reads as it did. -/
def sagaStaysUptoRow : OpenClaim := { program := "ytklmhegmombegaa", sum := "e19f5ddf7d9c8bb2f6c0cf69c5444ccfdc5d4407a1f6086d39110ebe9550e69d", func := "inspeximus/inspeximuslaw11.SagaStays", spec := "sagaStays", unfollowed := true, recurses := true, apart := false, narrowed := true }
def SagaStaysUptoSaid : Prop := sagaStaysUptoRow.holds Try.pinned (OpenSpec.upto sagaStaysSpec)

/-- 'inspeximuslaw11.SagaTries', WHERE WHAT IT READS IS OF BULK AT MOST 1048576: true; the input reads as it did. -/
def sagaTriesUptoRow : OpenClaim := { program := "ytklmhegmombegaa", sum := "e19f5ddf7d9c8bb2f6c0cf69c5444ccfdc5d4407a1f6086d39110ebe9550e69d", func := "inspeximus/inspeximuslaw11.SagaTries", spec := "sagaTries", unfollowed := true, recurses := true, apart := false, narrowed := true }
def SagaTriesUptoSaid : Prop := sagaTriesUptoRow.holds Try.pinned (OpenSpec.upto sagaTriesSpec)

/-- 'inspeximuslaw12.BookReports', WHERE WHAT IT READS IS OF BULK AT MOST 1048576: true; the input reads as it did. -/
def bookReportsUptoRow : OpenClaim := { program := "ytklmhegmombegaa", sum := "e19f5ddf7d9c8bb2f6c0cf69c5444ccfdc5d4407a1f6086d39110ebe9550e69d", func := "inspeximus/inspeximuslaw12.BookReports", spec := "bookReports", unfollowed := true, recurses := true, apart := false, narrowed := true }
def BookReportsUptoSaid : Prop := bookReportsUptoRow.holds Try.pinned (OpenSpec.upto bookReportsSpec)

/-- 'inspeximuslaw12.BookApart', WHERE WHAT IT READS IS OF BULK AT MOST 1048576: true; the input reads as it did. -/
def bookApartUptoRow : OpenClaim := { program := "ytklmhegmombegaa", sum := "e19f5ddf7d9c8bb2f6c0cf69c5444ccfdc5d4407a1f6086d39110ebe9550e69d", func := "inspeximus/inspeximuslaw12.BookApart", spec := "bookApart", unfollowed := true, recurses := true, apart := false, narrowed := true }
def BookApartUptoSaid : Prop := bookApartUptoRow.holds Try.pinned (OpenSpec.upto bookApartSpec)

/-- 'inspeximuslaw12.BookFewer', WHERE WHAT IT READS IS OF BULK AT MOST 1048576: true; the input reads as it did. -/
def bookFewerUptoRow : OpenClaim := { program := "ytklmhegmombegaa", sum := "e19f5ddf7d9c8bb2f6c0cf69c5444ccfdc5d4407a1f6086d39110ebe9550e69d", func := "inspeximus/inspeximuslaw12.BookFewer", spec := "bookFewer", unfollowed := true, recurses := true, apart := false, narrowed := true }
def BookFewerUptoSaid : Prop := bookFewerUptoRow.holds Try.pinned (OpenSpec.upto bookFewerSpec)

/-- 'inspeximuslaw12.BookTwice', WHERE WHAT IT READS IS OF BULK AT MOST 1048576: true; the input reads as it did. -/
def bookTwiceUptoRow : OpenClaim := { program := "ytklmhegmombegaa", sum := "e19f5ddf7d9c8bb2f6c0cf69c5444ccfdc5d4407a1f6086d39110ebe9550e69d", func := "inspeximus/inspeximuslaw12.BookTwice", spec := "bookTwice", unfollowed := true, recurses := true, apart := false, narrowed := true }
def BookTwiceUptoSaid : Prop := bookTwiceUptoRow.holds Try.pinned (OpenSpec.upto bookTwiceSpec)

/-- 'inspeximuslaw12.BookParts', WHERE WHAT IT READS IS OF BULK AT MOST 1048576: true; the input reads as it did. -/
def bookPartsUptoRow : OpenClaim := { program := "ytklmhegmombegaa", sum := "e19f5ddf7d9c8bb2f6c0cf69c5444ccfdc5d4407a1f6086d39110ebe9550e69d", func := "inspeximus/inspeximuslaw12.BookParts", spec := "bookParts", unfollowed := true, recurses := true, apart := false, narrowed := true }
def BookPartsUptoSaid : Prop := bookPartsUptoRow.holds Try.pinned (OpenSpec.upto bookPartsSpec)

end Rows
end Go.Proofs.Ytklmhegmombegaa
