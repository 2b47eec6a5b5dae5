/-
  NARROWER THAN 'FOR EVERY INPUT', by the rows' own cells (each row's printed sentence says how): FnExactSlimOnce: loops · FnExactSlimPush: loops · FnExactSlim: loops.
  DERIVED. THE GIVEN ROWS OF THIS SEAT. 3 by the template 'for every input the law returns true; each argument reads behind the call as it read before'; 0 by the template 'total and deterministic' (their statements: YtbghmemejbbhfaaGreatTotals.lean).
  GIVEN WITH THE SEED: the statements are not yours to turn. If you find one false, say at which input.
  Laid BY PROGRAM, IN A SANDBOX (cutbox-rows.mjs): the forced cells as the released guide's own fill.sh prints them over the translation e6e0d2b57997aeaf… (all of the seat's roots in one cut). By AI agents, Wed Nov 11 2026. No macro, syntax, notation, axiom, sorry.
-/
import Derived.Test.YtbghmemejbbhfaaGreatChecked
import GoSem.Claim
import GoSem.ClaimJoined
import GoSem.ClaimMapViews
import Derived.JoinedTies
import Derived.KernelRfl
namespace Go.Proofs.YtbghmemejbbhfaaGreat
/- THE CELL 'sum', in the pinned program and in every row, IS THE sha256 OF THE DUMP (.gsa) THAT YtbghmemejbbhfaaGreatProg.lean LOADS. Nothing in Lean hashes anything: it is a label: what it is worth is what the hold of that sum in a sandbox is worth. -/
noncomputable def Tryz.pinned : Pinned := { name := "ytbghmemejbbhfaagreat", sum := "e6e0d2b57997aeaff1ce9337b629e69d6355971eb93f2347981ba610cd8e69e8", checked := Tryz.checked }
namespace Rows
def none {H : Type} : Left H := { results := [], args := [] }

/-- 'laws.FnExactSlimOnce': WHATEVER THE INPUT: true; the input reads as it did. -/
def fnExactSlimOnceSpec : ChangeSpec := { name := "fnExactSlimOnce", fn := fun _ => fun
  | [d] => { results := [.lit (.bool true)], args := [d] }
  | _ => none }
def fnExactSlimOnceRow : OpenClaim := { program := "ytbghmemejbbhfaagreat", sum := "e6e0d2b57997aeaff1ce9337b629e69d6355971eb93f2347981ba610cd8e69e8", func := "loop.example/milldam/laws.FnExactSlimOnce", spec := "fnExactSlimOnce", unfollowed := true, recurses := true, loops := true, apart := false }
def FnExactSlimOnceSaid : Prop := fnExactSlimOnceRow.holds Tryz.pinned (OpenSpec.ofChange fnExactSlimOnceSpec)

/-- ITS FALSE NEIGHBOUR: 'it returns false'. Refute it at one input. -/
def fnExactSlimOnceWrong : ChangeSpec := { name := "fnExactSlimOnce", fn := fun _ => fun
  | [d] => { results := [.lit (.bool false)], args := [d] }
  | _ => none }
def FnExactSlimOnceWrongFalsely : Prop := fnExactSlimOnceRow.holds Tryz.pinned (OpenSpec.ofChange fnExactSlimOnceWrong)

/-- 'laws.FnExactSlimPush': WHATEVER THE INPUT: true; the input reads as it did. -/
def fnExactSlimPushSpec : ChangeSpec := { name := "fnExactSlimPush", fn := fun _ => fun
  | [d] => { results := [.lit (.bool true)], args := [d] }
  | _ => none }
def fnExactSlimPushRow : OpenClaim := { program := "ytbghmemejbbhfaagreat", sum := "e6e0d2b57997aeaff1ce9337b629e69d6355971eb93f2347981ba610cd8e69e8", func := "loop.example/milldam/laws.FnExactSlimPush", spec := "fnExactSlimPush", unfollowed := true, recurses := true, loops := true, apart := false }
def FnExactSlimPushSaid : Prop := fnExactSlimPushRow.holds Tryz.pinned (OpenSpec.ofChange fnExactSlimPushSpec)

/-- ITS FALSE NEIGHBOUR: 'it returns false'. Refute it at one input. -/
def fnExactSlimPushWrong : ChangeSpec := { name := "fnExactSlimPush", fn := fun _ => fun
  | [d] => { results := [.lit (.bool false)], args := [d] }
  | _ => none }
def FnExactSlimPushWrongFalsely : Prop := fnExactSlimPushRow.holds Tryz.pinned (OpenSpec.ofChange fnExactSlimPushWrong)

/-- 'laws.FnExactSlim': WHATEVER THE INPUT: true; the input reads as it did. -/
def fnExactSlimSpec : ChangeSpec := { name := "fnExactSlim", fn := fun _ => fun
  | [d] => { results := [.lit (.bool true)], args := [d] }
  | _ => none }
def fnExactSlimRow : OpenClaim := { program := "ytbghmemejbbhfaagreat", sum := "e6e0d2b57997aeaff1ce9337b629e69d6355971eb93f2347981ba610cd8e69e8", func := "loop.example/milldam/laws.FnExactSlim", spec := "fnExactSlim", unfollowed := true, recurses := true, loops := true, apart := false }
def FnExactSlimSaid : Prop := fnExactSlimRow.holds Tryz.pinned (OpenSpec.ofChange fnExactSlimSpec)

/-- ITS FALSE NEIGHBOUR: 'it returns false'. Refute it at one input. -/
def fnExactSlimWrong : ChangeSpec := { name := "fnExactSlim", fn := fun _ => fun
  | [d] => { results := [.lit (.bool false)], args := [d] }
  | _ => none }
def FnExactSlimWrongFalsely : Prop := fnExactSlimRow.holds Tryz.pinned (OpenSpec.ofChange fnExactSlimWrong)

/- THE SECOND FORM. 'bulk': how many values and letters a reading holds, each counted each time it is reached (what is shared counts as often as it is met; a slice's spare places count too). A statement '..UptoSaid' is the law's where the arguments, and the package variables that the reading takes, are together of bulk at most 1048576: NARROWER than '..Said'. Prove '..Said' where nothing that the law and all that it calls make is longer than what came in: it says more and counts as full. Else prove '..UptoSaid'. A law counts once. -/
mutual
def uptoBulk {H : Type} : DataW H → Nat
  | .lit (.string bytes) => bytes.length + 1
  | .lit _ => 1
  | .nil => 1
  | .ptr d => uptoBulk d + 1
  | .slice elems spare => uptoBulkAll elems + uptoBulkAll spare + 1
  | .agg parts => uptoBulkAll parts + 1
  | .iface _ d => uptoBulk d + 1
  | .map entries => uptoBulkEntries entries + 1
  | .held _ => 1
def uptoBulkAll {H : Type} : List (DataW H) → Nat
  | [] => 0
  | d :: r => uptoBulk d + uptoBulkAll r
def uptoBulkEntries {H : Type} : List (Lit × DataW H) → Nat
  | [] => 0
  | x :: r => uptoBulkEntry x + uptoBulkEntries r
def uptoBulkEntry {H : Type} : Lit × DataW H → Nat
  | (.string bytes, d) => bytes.length + uptoBulk d + 1
  | (_, d) => uptoBulk d + 1
 end
def uptoSmall : (H : Type) → List (DataW H) → Bool := fun _ ds => decide (uptoBulkAll ds ≤ 1048576)
def OpenSpec.upto (s : _root_.Go.ChangeSpec) : _root_.Go.OpenSpec := { _root_.Go.OpenSpec.ofChange s with cond := some uptoSmall }

/-- 'laws.FnExactSlimOnce', WHERE WHAT IT READS IS OF BULK AT MOST 1048576: true; the input reads as it did. -/
def fnExactSlimOnceUptoRow : OpenClaim := { program := "ytbghmemejbbhfaagreat", sum := "e6e0d2b57997aeaff1ce9337b629e69d6355971eb93f2347981ba610cd8e69e8", func := "loop.example/milldam/laws.FnExactSlimOnce", spec := "fnExactSlimOnce", unfollowed := true, recurses := true, loops := true, apart := false, narrowed := true }
def FnExactSlimOnceUptoSaid : Prop := fnExactSlimOnceUptoRow.holds Tryz.pinned (OpenSpec.upto fnExactSlimOnceSpec)

/-- 'laws.FnExactSlimPush', WHERE WHAT IT READS IS OF BULK AT MOST 1048576: true; the input reads as it did. -/
def fnExactSlimPushUptoRow : OpenClaim := { program := "ytbghmemejbbhfaagreat", sum := "e6e0d2b57997aeaff1ce9337b629e69d6355971eb93f2347981ba610cd8e69e8", func := "loop.example/milldam/laws.FnExactSlimPush", spec := "fnExactSlimPush", unfollowed := true, recurses := true, loops := true, apart := false, narrowed := true }
def FnExactSlimPushUptoSaid : Prop := fnExactSlimPushUptoRow.holds Tryz.pinned (OpenSpec.upto fnExactSlimPushSpec)

/-- 'laws.FnExactSlim', WHERE WHAT IT READS IS OF BULK AT MOST 1048576: true; the input reads as it did. -/
def fnExactSlimUptoRow : OpenClaim := { program := "ytbghmemejbbhfaagreat", sum := "e6e0d2b57997aeaff1ce9337b629e69d6355971eb93f2347981ba610cd8e69e8", func := "loop.example/milldam/laws.FnExactSlim", spec := "fnExactSlim", unfollowed := true, recurses := true, loops := true, apart := false, narrowed := true }
def FnExactSlimUptoSaid : Prop := fnExactSlimUptoRow.holds Tryz.pinned (OpenSpec.upto fnExactSlimSpec)

end Rows
end Go.Proofs.YtbghmemejbbhfaaGreat
