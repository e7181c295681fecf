/-
  No cell of these rows narrows 'for every input' (looked for: loops, veiled, ifaces, maps, wideKeys, modest, calm, conditions, laid).
  DERIVED. THE GIVEN ROWS OF THIS SEAT. 3 by the template 'for every input the law returns true; each argument reads behind the call as it read before'; 0 by the template 'total and deterministic' (their statements: YtlbijehgoiknjaaTotals.lean).
  GIVEN WITH THE SEED: the statements are not yours to turn. If you find one false, say at which input.
  Laid BY PROGRAM, IN A SANDBOX (cutbox-rows.mjs): the forced cells as the released guide's own fill.sh prints them over the translation 7652af5bb5e460ce… (all of the seat's roots in one cut). By AI agents, Wed Nov 11 2026. No macro, syntax, notation, axiom, sorry.
-/
import Derived.Test.YtlbijehgoiknjaaChecked
import GoSem.Claim
import GoSem.ClaimJoined
import GoSem.ClaimMapViews
import Derived.JoinedTies
import Derived.KernelRfl
namespace Go.Proofs.Ytlbijehgoiknjaa
/- THE CELL 'sum', in the pinned program and in every row, IS THE sha256 OF THE DUMP (.gsa) THAT YtlbijehgoiknjaaProg.lean LOADS. Nothing in Lean hashes anything: it is a label: what it is worth is what the hold of that sum in a sandbox is worth. -/
noncomputable def Try.pinned : Pinned := { name := "ytlbijehgoiknjaa", sum := "7652af5bb5e460ce6807d14e97c915392e439c6b6ea578bbd73c2047ea5822b6", checked := Try.checked }
namespace Rows
def none {H : Type} : Left H := { results := [], args := [] }

/-- 'stevedorelaw28.ZipdirFinds': WHATEVER THE INPUT: true; the input reads as it did. -/
def zipdirFindsSpec : ChangeSpec := { name := "zipdirFinds", fn := fun _ => fun
  | [d1, d2, d3, d4] => { results := [.lit (.bool true)], args := [d1, d2, d3, d4] }
  | _ => none }
def zipdirFindsRow : OpenClaim := { program := "ytlbijehgoiknjaa", sum := "7652af5bb5e460ce6807d14e97c915392e439c6b6ea578bbd73c2047ea5822b6", func := "stevedore/stevedorelaw28.ZipdirFinds", spec := "zipdirFinds", unfollowed := true, recurses := true, apart := false }
def ZipdirFindsSaid : Prop := zipdirFindsRow.holds Try.pinned (OpenSpec.ofChange zipdirFindsSpec)

/-- ITS FALSE NEIGHBOUR: 'it returns false'. Refute it at one input. -/
def zipdirFindsWrong : ChangeSpec := { name := "zipdirFinds", fn := fun _ => fun
  | [d1, d2, d3, d4] => { results := [.lit (.bool false)], args := [d1, d2, d3, d4] }
  | _ => none }
def ZipdirFindsWrongFalsely : Prop := zipdirFindsRow.holds Try.pinned (OpenSpec.ofChange zipdirFindsWrong)

/-- 'stevedorelaw28.ZipdirHeaders': WHATEVER THE INPUT: true; the input reads as it did. -/
def zipdirHeadersSpec : ChangeSpec := { name := "zipdirHeaders", fn := fun _ => fun
  | [d1, d2, d3, d4, d5] => { results := [.lit (.bool true)], args := [d1, d2, d3, d4, d5] }
  | _ => none }
def zipdirHeadersRow : OpenClaim := { program := "ytlbijehgoiknjaa", sum := "7652af5bb5e460ce6807d14e97c915392e439c6b6ea578bbd73c2047ea5822b6", func := "stevedore/stevedorelaw28.ZipdirHeaders", spec := "zipdirHeaders", unfollowed := true, recurses := true, apart := false }
def ZipdirHeadersSaid : Prop := zipdirHeadersRow.holds Try.pinned (OpenSpec.ofChange zipdirHeadersSpec)

/-- ITS FALSE NEIGHBOUR: 'it returns false'. Refute it at one input. -/
def zipdirHeadersWrong : ChangeSpec := { name := "zipdirHeaders", fn := fun _ => fun
  | [d1, d2, d3, d4, d5] => { results := [.lit (.bool false)], args := [d1, d2, d3, d4, d5] }
  | _ => none }
def ZipdirHeadersWrongFalsely : Prop := zipdirHeadersRow.holds Try.pinned (OpenSpec.ofChange zipdirHeadersWrong)

/-- 'stevedorelaw28.ZipdirBack': WHATEVER THE INPUT: true; the input reads as it did. -/
def zipdirBackSpec : ChangeSpec := { name := "zipdirBack", fn := fun _ => fun
  | [d1, d2] => { results := [.lit (.bool true)], args := [d1, d2] }
  | _ => none }
def zipdirBackRow : OpenClaim := { program := "ytlbijehgoiknjaa", sum := "7652af5bb5e460ce6807d14e97c915392e439c6b6ea578bbd73c2047ea5822b6", func := "stevedore/stevedorelaw28.ZipdirBack", spec := "zipdirBack", unfollowed := true, recurses := true, apart := false }
def ZipdirBackSaid : Prop := zipdirBackRow.holds Try.pinned (OpenSpec.ofChange zipdirBackSpec)

/-- ITS FALSE NEIGHBOUR: 'it returns false'. Refute it at one input. -/
def zipdirBackWrong : ChangeSpec := { name := "zipdirBack", fn := fun _ => fun
  | [d1, d2] => { results := [.lit (.bool false)], args := [d1, d2] }
  | _ => none }
def ZipdirBackWrongFalsely : Prop := zipdirBackRow.holds Try.pinned (OpenSpec.ofChange zipdirBackWrong)

/- THE SECOND FORM. 'bulk': how many values and letters a reading holds, each counted each time it is reached (what is shared counts as often as it is met; a slice's spare places count too). A statement '..UptoSaid' is the law's where the arguments, and the package variables that the reading takes, are together of bulk at most 1048576: NARROWER than '..Said'. Prove '..Said' where nothing that the law and all that it calls make is longer than what came in: it says more and counts as full. Else prove '..UptoSaid'. A law counts once. -/
mutual
def uptoBulk {H : Type} : DataW H → Nat
  | .lit (.string bytes) => bytes.length + 1
  | .lit _ => 1
  | .nil => 1
  | .ptr d => uptoBulk d + 1
  | .slice elems spare => uptoBulkAll elems + uptoBulkAll spare + 1
  | .agg parts => uptoBulkAll parts + 1
  | .iface _ d => uptoBulk d + 1
  | .map entries => uptoBulkEntries entries + 1
  | .held _ => 1
def uptoBulkAll {H : Type} : List (DataW H) → Nat
  | [] => 0
  | d :: r => uptoBulk d + uptoBulkAll r
def uptoBulkEntries {H : Type} : List (Lit × DataW H) → Nat
  | [] => 0
  | x :: r => uptoBulkEntry x + uptoBulkEntries r
def uptoBulkEntry {H : Type} : Lit × DataW H → Nat
  | (.string bytes, d) => bytes.length + uptoBulk d + 1
  | (_, d) => uptoBulk d + 1
 end
def uptoSmall : (H : Type) → List (DataW H) → Bool := fun _ ds => decide (uptoBulkAll ds ≤ 1048576)
def OpenSpec.upto (s : _root_.Go.ChangeSpec) : _root_.Go.OpenSpec := { _root_.Go.OpenSpec.ofChange s with cond := some uptoSmall }

/-- 'stevedorelaw28.ZipdirFinds', WHERE WHAT IT READS IS OF BULK AT MOST 1048576: true; the input reads as it did. -/
def zipdirFindsUptoRow : OpenClaim := { program := "ytlbijehgoiknjaa", sum := "7652af5bb5e460ce6807d14e97c915392e439c6b6ea578bbd73c2047ea5822b6", func := "stevedore/stevedorelaw28.ZipdirFinds", spec := "zipdirFinds", unfollowed := true, recurses := true, apart := false, narrowed := true }
def ZipdirFindsUptoSaid : Prop := zipdirFindsUptoRow.holds Try.pinned (OpenSpec.upto zipdirFindsSpec)

/-- 'stevedorelaw28.ZipdirHeaders', WHERE WHAT IT READS IS OF BULK AT MOST 1048576: true; the input reads as it did. -/
def zipdirHeadersUptoRow : OpenClaim := { program := "ytlbijehgoiknjaa", sum := "7652af5bb5e460ce6807d14e97c915392e439c6b6ea578bbd73c2047ea5822b6", func := "stevedore/stevedorelaw28.ZipdirHeaders", spec := "zipdirHeaders", unfollowed := true, recurses := true, apart := false, narrowed := true }
def ZipdirHeadersUptoSaid : Prop := zipdirHeadersUptoRow.holds Try.pinned (OpenSpec.upto zipdirHeadersSpec)

/-- 'stevedorelaw28.ZipdirBack', WHERE WHAT IT READS IS OF BULK AT MOST 1048576: true; the input reads as it did. -/
def zipdirBackUptoRow : OpenClaim := { program := "ytlbijehgoiknjaa", sum := "7652af5bb5e460ce6807d14e97c915392e439c6b6ea578bbd73c2047ea5822b6", func := "stevedore/stevedorelaw28.ZipdirBack", spec := "zipdirBack", unfollowed := true, recurses := true, apart := false, narrowed := true }
def ZipdirBackUptoSaid : Prop := zipdirBackUptoRow.holds Try.pinned (OpenSpec.upto zipdirBackSpec)

end Rows
end Go.Proofs.Ytlbijehgoiknjaa
