/-
  No cell of these rows narrows 'for every input' (looked for: loops, veiled, ifaces, maps, wideKeys, modest, calm, conditions, laid).
  DERIVED. THE GIVEN ROWS OF THIS SEAT. 16 by the template 'for every input the law returns true; each argument reads behind the call as it read before'; 0 by the template 'total and deterministic' (their statements: YtlfnpnkpjdmonaaTotals.lean).
  GIVEN WITH THE SEED: the statements are not yours to turn. If you find one false, say at which input.
  Laid BY PROGRAM, IN A SANDBOX (cutbox-rows.mjs): the forced cells as the released guide's own fill.sh prints them over the translation 38949acacd802e3d… (all of the seat's roots in one cut). By AI agents, Wed Nov 11 2026. No macro, syntax, notation, axiom, sorry.
-/
import Derived.Test.YtlfnpnkpjdmonaaChecked
import GoSem.Claim
import GoSem.ClaimJoined
import GoSem.ClaimMapViews
import Derived.JoinedTies
import Derived.KernelRfl
namespace Go.Proofs.Ytlfnpnkpjdmonaa
/- THE CELL 'sum', in the pinned program and in every row, IS THE sha256 OF THE DUMP (.gsa) THAT YtlfnpnkpjdmonaaProg.lean LOADS. Nothing in Lean hashes anything: it is a label: what it is worth is what the hold of that sum in a sandbox is worth. -/
noncomputable def Try.pinned : Pinned := { name := "ytlfnpnkpjdmonaa", sum := "38949acacd802e3d8f78413283fea1400dfcf8e09ab9a2db90ff7d1f80b926c0", checked := Try.checked }
namespace Rows
def none {H : Type} : Left H := { results := [], args := [] }

/-- 'laws.FnExactImapOK': WHATEVER THE INPUT: true; the input reads as it did. -/
def fnExactImapOKSpec : ChangeSpec := { name := "fnExactImapOK", fn := fun _ => fun
  | [d] => { results := [.lit (.bool true)], args := [d] }
  | _ => none }
def fnExactImapOKRow : OpenClaim := { program := "ytlfnpnkpjdmonaa", sum := "38949acacd802e3d8f78413283fea1400dfcf8e09ab9a2db90ff7d1f80b926c0", func := "loop.example/g00340/laws.FnExactImapOK", spec := "fnExactImapOK", apart := false }
def FnExactImapOKSaid : Prop := fnExactImapOKRow.holds Try.pinned (OpenSpec.ofChange fnExactImapOKSpec)

/-- ITS FALSE NEIGHBOUR: 'it returns false'. Refute it at one input. -/
def fnExactImapOKWrong : ChangeSpec := { name := "fnExactImapOK", fn := fun _ => fun
  | [d] => { results := [.lit (.bool false)], args := [d] }
  | _ => none }
def FnExactImapOKWrongFalsely : Prop := fnExactImapOKRow.holds Try.pinned (OpenSpec.ofChange fnExactImapOKWrong)

/-- 'laws.FnExactNewSmtp': WHATEVER THE INPUT: true; the input reads as it did. -/
def fnExactNewSmtpSpec : ChangeSpec := { name := "fnExactNewSmtp", fn := fun _ => fun
  | [] => { results := [.lit (.bool true)], args := [] }
  | _ => none }
def fnExactNewSmtpRow : OpenClaim := { program := "ytlfnpnkpjdmonaa", sum := "38949acacd802e3d8f78413283fea1400dfcf8e09ab9a2db90ff7d1f80b926c0", func := "loop.example/g00340/laws.FnExactNewSmtp", spec := "fnExactNewSmtp", apart := false }
def FnExactNewSmtpSaid : Prop := fnExactNewSmtpRow.holds Try.pinned (OpenSpec.ofChange fnExactNewSmtpSpec)

/-- ITS FALSE NEIGHBOUR: 'it returns false'. Refute it at one input. -/
def fnExactNewSmtpWrong : ChangeSpec := { name := "fnExactNewSmtp", fn := fun _ => fun
  | [] => { results := [.lit (.bool false)], args := [] }
  | _ => none }
def FnExactNewSmtpWrongFalsely : Prop := fnExactNewSmtpRow.holds Try.pinned (OpenSpec.ofChange fnExactNewSmtpWrong)

/-- 'laws.FnExactFlagsText': WHATEVER THE INPUT: true; the input reads as it did. -/
def fnExactFlagsTextSpec : ChangeSpec := { name := "fnExactFlagsText", fn := fun _ => fun
  | [d] => { results := [.lit (.bool true)], args := [d] }
  | _ => none }
def fnExactFlagsTextRow : OpenClaim := { program := "ytlfnpnkpjdmonaa", sum := "38949acacd802e3d8f78413283fea1400dfcf8e09ab9a2db90ff7d1f80b926c0", func := "loop.example/g00340/laws.FnExactFlagsText", spec := "fnExactFlagsText", inPlace := ["internal/abi.NoEscape", "internal/bytealg.MakeNoZero"], apart := false }
def FnExactFlagsTextSaid : Prop := fnExactFlagsTextRow.holds Try.pinned (OpenSpec.ofChange fnExactFlagsTextSpec)

/-- ITS FALSE NEIGHBOUR: 'it returns false'. Refute it at one input. -/
def fnExactFlagsTextWrong : ChangeSpec := { name := "fnExactFlagsText", fn := fun _ => fun
  | [d] => { results := [.lit (.bool false)], args := [d] }
  | _ => none }
def FnExactFlagsTextWrongFalsely : Prop := fnExactFlagsTextRow.holds Try.pinned (OpenSpec.ofChange fnExactFlagsTextWrong)

/-- 'laws.FnExactReadFields': WHATEVER THE INPUT: true; the input reads as it did. -/
def fnExactReadFieldsSpec : ChangeSpec := { name := "fnExactReadFields", fn := fun _ => fun
  | [d] => { results := [.lit (.bool true)], args := [d] }
  | _ => none }
def fnExactReadFieldsRow : OpenClaim := { program := "ytlfnpnkpjdmonaa", sum := "38949acacd802e3d8f78413283fea1400dfcf8e09ab9a2db90ff7d1f80b926c0", func := "loop.example/g00340/laws.FnExactReadFields", spec := "fnExactReadFields", apart := false }
def FnExactReadFieldsSaid : Prop := fnExactReadFieldsRow.holds Try.pinned (OpenSpec.ofChange fnExactReadFieldsSpec)

/-- ITS FALSE NEIGHBOUR: 'it returns false'. Refute it at one input. -/
def fnExactReadFieldsWrong : ChangeSpec := { name := "fnExactReadFields", fn := fun _ => fun
  | [d] => { results := [.lit (.bool false)], args := [d] }
  | _ => none }
def FnExactReadFieldsWrongFalsely : Prop := fnExactReadFieldsRow.holds Try.pinned (OpenSpec.ofChange fnExactReadFieldsWrong)

/-- 'laws.FnExactSmtpOK': WHATEVER THE INPUT: true; the input reads as it did. -/
def fnExactSmtpOKSpec : ChangeSpec := { name := "fnExactSmtpOK", fn := fun _ => fun
  | [d] => { results := [.lit (.bool true)], args := [d] }
  | _ => none }
def fnExactSmtpOKRow : OpenClaim := { program := "ytlfnpnkpjdmonaa", sum := "38949acacd802e3d8f78413283fea1400dfcf8e09ab9a2db90ff7d1f80b926c0", func := "loop.example/g00340/laws.FnExactSmtpOK", spec := "fnExactSmtpOK", unfollowed := true, recurses := true, apart := false }
def FnExactSmtpOKSaid : Prop := fnExactSmtpOKRow.holds Try.pinned (OpenSpec.ofChange fnExactSmtpOKSpec)

/-- ITS FALSE NEIGHBOUR: 'it returns false'. Refute it at one input. -/
def fnExactSmtpOKWrong : ChangeSpec := { name := "fnExactSmtpOK", fn := fun _ => fun
  | [d] => { results := [.lit (.bool false)], args := [d] }
  | _ => none }
def FnExactSmtpOKWrongFalsely : Prop := fnExactSmtpOKRow.holds Try.pinned (OpenSpec.ofChange fnExactSmtpOKWrong)

/-- 'laws.FnExactSameState': WHATEVER THE INPUT: true; the input reads as it did. -/
def fnExactSameStateSpec : ChangeSpec := { name := "fnExactSameState", fn := fun _ => fun
  | [d1, d2] => { results := [.lit (.bool true)], args := [d1, d2] }
  | _ => none }
def fnExactSameStateRow : OpenClaim := { program := "ytlfnpnkpjdmonaa", sum := "38949acacd802e3d8f78413283fea1400dfcf8e09ab9a2db90ff7d1f80b926c0", func := "loop.example/g00340/laws.FnExactSameState", spec := "fnExactSameState", unfollowed := true, recurses := true, apart := false }
def FnExactSameStateSaid : Prop := fnExactSameStateRow.holds Try.pinned (OpenSpec.ofChange fnExactSameStateSpec)

/-- ITS FALSE NEIGHBOUR: 'it returns false'. Refute it at one input. -/
def fnExactSameStateWrong : ChangeSpec := { name := "fnExactSameState", fn := fun _ => fun
  | [d1, d2] => { results := [.lit (.bool false)], args := [d1, d2] }
  | _ => none }
def FnExactSameStateWrongFalsely : Prop := fnExactSameStateRow.holds Try.pinned (OpenSpec.ofChange fnExactSameStateWrong)

/-- 'laws.FnFields': WHATEVER THE INPUT: true; the input reads as it did. -/
def fnFieldsSpec : ChangeSpec := { name := "fnFields", fn := fun _ => fun
  | [d1, d2] => { results := [.lit (.bool true)], args := [d1, d2] }
  | _ => none }
def fnFieldsRow : OpenClaim := { program := "ytlfnpnkpjdmonaa", sum := "38949acacd802e3d8f78413283fea1400dfcf8e09ab9a2db90ff7d1f80b926c0", func := "loop.example/g00340/laws.FnFields", spec := "fnFields", inPlace := ["internal/abi.NoEscape"], unfollowed := true, recurses := true, apart := false }
def FnFieldsSaid : Prop := fnFieldsRow.holds Try.pinned (OpenSpec.ofChange fnFieldsSpec)

/-- ITS FALSE NEIGHBOUR: 'it returns false'. Refute it at one input. -/
def fnFieldsWrong : ChangeSpec := { name := "fnFields", fn := fun _ => fun
  | [d1, d2] => { results := [.lit (.bool false)], args := [d1, d2] }
  | _ => none }
def FnFieldsWrongFalsely : Prop := fnFieldsRow.holds Try.pinned (OpenSpec.ofChange fnFieldsWrong)

/-- 'laws.FnDiff': WHATEVER THE INPUT: true; the input reads as it did. -/
def fnDiffSpec : ChangeSpec := { name := "fnDiff", fn := fun _ => fun
  | [d1, d2] => { results := [.lit (.bool true)], args := [d1, d2] }
  | _ => none }
def fnDiffRow : OpenClaim := { program := "ytlfnpnkpjdmonaa", sum := "38949acacd802e3d8f78413283fea1400dfcf8e09ab9a2db90ff7d1f80b926c0", func := "loop.example/g00340/laws.FnDiff", spec := "fnDiff", inPlace := ["internal/bytealg.abigen_runtime_cmpstring", "slices.overlaps[loop.example/g00340/impl.Pair]"], unfollowed := true, recurses := true, apart := false }
def FnDiffSaid : Prop := fnDiffRow.holds Try.pinned (OpenSpec.ofChange fnDiffSpec)

/-- ITS FALSE NEIGHBOUR: 'it returns false'. Refute it at one input. -/
def fnDiffWrong : ChangeSpec := { name := "fnDiff", fn := fun _ => fun
  | [d1, d2] => { results := [.lit (.bool false)], args := [d1, d2] }
  | _ => none }
def FnDiffWrongFalsely : Prop := fnDiffRow.holds Try.pinned (OpenSpec.ofChange fnDiffWrong)

/-- 'laws.FnPairs': WHATEVER THE INPUT: true; the input reads as it did. -/
def fnPairsSpec : ChangeSpec := { name := "fnPairs", fn := fun _ => fun
  | [d1, d2] => { results := [.lit (.bool true)], args := [d1, d2] }
  | _ => none }
def fnPairsRow : OpenClaim := { program := "ytlfnpnkpjdmonaa", sum := "38949acacd802e3d8f78413283fea1400dfcf8e09ab9a2db90ff7d1f80b926c0", func := "loop.example/g00340/laws.FnPairs", spec := "fnPairs", inPlace := ["internal/bytealg.abigen_runtime_cmpstring", "slices.overlaps[loop.example/g00340/impl.Pair]"], unfollowed := true, recurses := true, apart := false }
def FnPairsSaid : Prop := fnPairsRow.holds Try.pinned (OpenSpec.ofChange fnPairsSpec)

/-- ITS FALSE NEIGHBOUR: 'it returns false'. Refute it at one input. -/
def fnPairsWrong : ChangeSpec := { name := "fnPairs", fn := fun _ => fun
  | [d1, d2] => { results := [.lit (.bool false)], args := [d1, d2] }
  | _ => none }
def FnPairsWrongFalsely : Prop := fnPairsRow.holds Try.pinned (OpenSpec.ofChange fnPairsWrong)

/-- 'laws.FnBackup': WHATEVER THE INPUT: true; the input reads as it did. -/
def fnBackupSpec : ChangeSpec := { name := "fnBackup", fn := fun _ => fun
  | [d1, d2] => { results := [.lit (.bool true)], args := [d1, d2] }
  | _ => none }
def fnBackupRow : OpenClaim := { program := "ytlfnpnkpjdmonaa", sum := "38949acacd802e3d8f78413283fea1400dfcf8e09ab9a2db90ff7d1f80b926c0", func := "loop.example/g00340/laws.FnBackup", spec := "fnBackup", inPlace := ["internal/abi.NoEscape"], apart := false }
def FnBackupSaid : Prop := fnBackupRow.holds Try.pinned (OpenSpec.ofChange fnBackupSpec)

/-- ITS FALSE NEIGHBOUR: 'it returns false'. Refute it at one input. -/
def fnBackupWrong : ChangeSpec := { name := "fnBackup", fn := fun _ => fun
  | [d1, d2] => { results := [.lit (.bool false)], args := [d1, d2] }
  | _ => none }
def FnBackupWrongFalsely : Prop := fnBackupRow.holds Try.pinned (OpenSpec.ofChange fnBackupWrong)

/-- 'laws.FnExactReadNode': WHATEVER THE INPUT: true; the input reads as it did. -/
def fnExactReadNodeSpec : ChangeSpec := { name := "fnExactReadNode", fn := fun _ => fun
  | [d] => { results := [.lit (.bool true)], args := [d] }
  | _ => none }
def fnExactReadNodeRow : OpenClaim := { program := "ytlfnpnkpjdmonaa", sum := "38949acacd802e3d8f78413283fea1400dfcf8e09ab9a2db90ff7d1f80b926c0", func := "loop.example/g00340/laws.FnExactReadNode", spec := "fnExactReadNode", apart := false }
def FnExactReadNodeSaid : Prop := fnExactReadNodeRow.holds Try.pinned (OpenSpec.ofChange fnExactReadNodeSpec)

/-- ITS FALSE NEIGHBOUR: 'it returns false'. Refute it at one input. -/
def fnExactReadNodeWrong : ChangeSpec := { name := "fnExactReadNode", fn := fun _ => fun
  | [d] => { results := [.lit (.bool false)], args := [d] }
  | _ => none }
def FnExactReadNodeWrongFalsely : Prop := fnExactReadNodeRow.holds Try.pinned (OpenSpec.ofChange fnExactReadNodeWrong)

/-- 'laws.FnExactArchiveBytes': WHATEVER THE INPUT: true; the input reads as it did. -/
def fnExactArchiveBytesSpec : ChangeSpec := { name := "fnExactArchiveBytes", fn := fun _ => fun
  | [d] => { results := [.lit (.bool true)], args := [d] }
  | _ => none }
def fnExactArchiveBytesRow : OpenClaim := { program := "ytlfnpnkpjdmonaa", sum := "38949acacd802e3d8f78413283fea1400dfcf8e09ab9a2db90ff7d1f80b926c0", func := "loop.example/g00340/laws.FnExactArchiveBytes", spec := "fnExactArchiveBytes", inPlace := ["internal/abi.NoEscape"], unfollowed := true, recurses := true, apart := false }
def FnExactArchiveBytesSaid : Prop := fnExactArchiveBytesRow.holds Try.pinned (OpenSpec.ofChange fnExactArchiveBytesSpec)

/-- ITS FALSE NEIGHBOUR: 'it returns false'. Refute it at one input. -/
def fnExactArchiveBytesWrong : ChangeSpec := { name := "fnExactArchiveBytes", fn := fun _ => fun
  | [d] => { results := [.lit (.bool false)], args := [d] }
  | _ => none }
def FnExactArchiveBytesWrongFalsely : Prop := fnExactArchiveBytesRow.holds Try.pinned (OpenSpec.ofChange fnExactArchiveBytesWrong)

/-- 'laws.FnExactReadBackup': WHATEVER THE INPUT: true; the input reads as it did. -/
def fnExactReadBackupSpec : ChangeSpec := { name := "fnExactReadBackup", fn := fun _ => fun
  | [d] => { results := [.lit (.bool true)], args := [d] }
  | _ => none }
def fnExactReadBackupRow : OpenClaim := { program := "ytlfnpnkpjdmonaa", sum := "38949acacd802e3d8f78413283fea1400dfcf8e09ab9a2db90ff7d1f80b926c0", func := "loop.example/g00340/laws.FnExactReadBackup", spec := "fnExactReadBackup", inPlace := ["internal/abi.NoEscape"], apart := false }
def FnExactReadBackupSaid : Prop := fnExactReadBackupRow.holds Try.pinned (OpenSpec.ofChange fnExactReadBackupSpec)

/-- ITS FALSE NEIGHBOUR: 'it returns false'. Refute it at one input. -/
def fnExactReadBackupWrong : ChangeSpec := { name := "fnExactReadBackup", fn := fun _ => fun
  | [d] => { results := [.lit (.bool false)], args := [d] }
  | _ => none }
def FnExactReadBackupWrongFalsely : Prop := fnExactReadBackupRow.holds Try.pinned (OpenSpec.ofChange fnExactReadBackupWrong)

/-- 'laws.FnReplay': WHATEVER THE INPUT: true; the input reads as it did. -/
def fnReplaySpec : ChangeSpec := { name := "fnReplay", fn := fun _ => fun
  | [d1, d2] => { results := [.lit (.bool true)], args := [d1, d2] }
  | _ => none }
def fnReplayRow : OpenClaim := { program := "ytlfnpnkpjdmonaa", sum := "38949acacd802e3d8f78413283fea1400dfcf8e09ab9a2db90ff7d1f80b926c0", func := "loop.example/g00340/laws.FnReplay", spec := "fnReplay", inPlace := ["internal/abi.NoEscape", "internal/bytealg.abigen_runtime_cmpstring", "slices.overlaps[loop.example/g00340/impl.Pair]"], unfollowed := true, recurses := true, apart := false }
def FnReplaySaid : Prop := fnReplayRow.holds Try.pinned (OpenSpec.ofChange fnReplaySpec)

/-- ITS FALSE NEIGHBOUR: 'it returns false'. Refute it at one input. -/
def fnReplayWrong : ChangeSpec := { name := "fnReplay", fn := fun _ => fun
  | [d1, d2] => { results := [.lit (.bool false)], args := [d1, d2] }
  | _ => none }
def FnReplayWrongFalsely : Prop := fnReplayRow.holds Try.pinned (OpenSpec.ofChange fnReplayWrong)

/-- 'laws.FnNode': WHATEVER THE INPUT: true; the input reads as it did. -/
def fnNodeSpec : ChangeSpec := { name := "fnNode", fn := fun _ => fun
  | [d1, d2] => { results := [.lit (.bool true)], args := [d1, d2] }
  | _ => none }
def fnNodeRow : OpenClaim := { program := "ytlfnpnkpjdmonaa", sum := "38949acacd802e3d8f78413283fea1400dfcf8e09ab9a2db90ff7d1f80b926c0", func := "loop.example/g00340/laws.FnNode", spec := "fnNode", inPlace := ["internal/abi.NoEscape"], recurses := true, apart := false }
def FnNodeSaid : Prop := fnNodeRow.holds Try.pinned (OpenSpec.ofChange fnNodeSpec)

/-- ITS FALSE NEIGHBOUR: 'it returns false'. Refute it at one input. -/
def fnNodeWrong : ChangeSpec := { name := "fnNode", fn := fun _ => fun
  | [d1, d2] => { results := [.lit (.bool false)], args := [d1, d2] }
  | _ => none }
def FnNodeWrongFalsely : Prop := fnNodeRow.holds Try.pinned (OpenSpec.ofChange fnNodeWrong)

/-- 'laws.FnExactRestoreArchive': WHATEVER THE INPUT: true; the input reads as it did. -/
def fnExactRestoreArchiveSpec : ChangeSpec := { name := "fnExactRestoreArchive", fn := fun _ => fun
  | [d] => { results := [.lit (.bool true)], args := [d] }
  | _ => none }
def fnExactRestoreArchiveRow : OpenClaim := { program := "ytlfnpnkpjdmonaa", sum := "38949acacd802e3d8f78413283fea1400dfcf8e09ab9a2db90ff7d1f80b926c0", func := "loop.example/g00340/laws.FnExactRestoreArchive", spec := "fnExactRestoreArchive", inPlace := ["internal/abi.NoEscape", "internal/bytealg.abigen_runtime_cmpstring", "slices.overlaps[loop.example/g00340/impl.Pair]"], unfollowed := true, recurses := true, apart := false }
def FnExactRestoreArchiveSaid : Prop := fnExactRestoreArchiveRow.holds Try.pinned (OpenSpec.ofChange fnExactRestoreArchiveSpec)

/-- ITS FALSE NEIGHBOUR: 'it returns false'. Refute it at one input. -/
def fnExactRestoreArchiveWrong : ChangeSpec := { name := "fnExactRestoreArchive", fn := fun _ => fun
  | [d] => { results := [.lit (.bool false)], args := [d] }
  | _ => none }
def FnExactRestoreArchiveWrongFalsely : Prop := fnExactRestoreArchiveRow.holds Try.pinned (OpenSpec.ofChange fnExactRestoreArchiveWrong)

/- THE SECOND FORM. 'bulk': how many values and letters a reading holds, each counted each time it is reached (what is shared counts as often as it is met; a slice's spare places count too). A statement '..UptoSaid' is the law's where the arguments, and the package variables that the reading takes, are together of bulk at most 1048576: NARROWER than '..Said'. Prove '..Said' where nothing that the law and all that it calls make is longer than what came in: it says more and counts as full. Else prove '..UptoSaid'. A law counts once. -/
mutual
def uptoBulk {H : Type} : DataW H → Nat
  | .lit (.string bytes) => bytes.length + 1
  | .lit _ => 1
  | .nil => 1
  | .ptr d => uptoBulk d + 1
  | .slice elems spare => uptoBulkAll elems + uptoBulkAll spare + 1
  | .agg parts => uptoBulkAll parts + 1
  | .iface _ d => uptoBulk d + 1
  | .map entries => uptoBulkEntries entries + 1
  | .held _ => 1
def uptoBulkAll {H : Type} : List (DataW H) → Nat
  | [] => 0
  | d :: r => uptoBulk d + uptoBulkAll r
def uptoBulkEntries {H : Type} : List (Lit × DataW H) → Nat
  | [] => 0
  | x :: r => uptoBulkEntry x + uptoBulkEntries r
def uptoBulkEntry {H : Type} : Lit × DataW H → Nat
  | (.string bytes, d) => bytes.length + uptoBulk d + 1
  | (_, d) => uptoBulk d + 1
 end
def uptoSmall : (H : Type) → List (DataW H) → Bool := fun _ ds => decide (uptoBulkAll ds ≤ 1048576)
def OpenSpec.upto (s : _root_.Go.ChangeSpec) : _root_.Go.OpenSpec := { _root_.Go.OpenSpec.ofChange s with cond := some uptoSmall }

/-- 'laws.FnExactImapOK', WHERE WHAT IT READS IS OF BULK AT MOST 1048576: true; the input reads as it did. -/
def fnExactImapOKUptoRow : OpenClaim := { program := "ytlfnpnkpjdmonaa", sum := "38949acacd802e3d8f78413283fea1400dfcf8e09ab9a2db90ff7d1f80b926c0", func := "loop.example/g00340/laws.FnExactImapOK", spec := "fnExactImapOK", apart := false, narrowed := true }
def FnExactImapOKUptoSaid : Prop := fnExactImapOKUptoRow.holds Try.pinned (OpenSpec.upto fnExactImapOKSpec)

/-- 'laws.FnExactNewSmtp', WHERE WHAT IT READS IS OF BULK AT MOST 1048576: true; the input reads as it did. -/
def fnExactNewSmtpUptoRow : OpenClaim := { program := "ytlfnpnkpjdmonaa", sum := "38949acacd802e3d8f78413283fea1400dfcf8e09ab9a2db90ff7d1f80b926c0", func := "loop.example/g00340/laws.FnExactNewSmtp", spec := "fnExactNewSmtp", apart := false, narrowed := true }
def FnExactNewSmtpUptoSaid : Prop := fnExactNewSmtpUptoRow.holds Try.pinned (OpenSpec.upto fnExactNewSmtpSpec)

/-- 'laws.FnExactFlagsText', WHERE WHAT IT READS IS OF BULK AT MOST 1048576: true; the input reads as it did. -/
def fnExactFlagsTextUptoRow : OpenClaim := { program := "ytlfnpnkpjdmonaa", sum := "38949acacd802e3d8f78413283fea1400dfcf8e09ab9a2db90ff7d1f80b926c0", func := "loop.example/g00340/laws.FnExactFlagsText", spec := "fnExactFlagsText", inPlace := ["internal/abi.NoEscape", "internal/bytealg.MakeNoZero"], apart := false, narrowed := true }
def FnExactFlagsTextUptoSaid : Prop := fnExactFlagsTextUptoRow.holds Try.pinned (OpenSpec.upto fnExactFlagsTextSpec)

/-- 'laws.FnExactReadFields', WHERE WHAT IT READS IS OF BULK AT MOST 1048576: true; the input reads as it did. -/
def fnExactReadFieldsUptoRow : OpenClaim := { program := "ytlfnpnkpjdmonaa", sum := "38949acacd802e3d8f78413283fea1400dfcf8e09ab9a2db90ff7d1f80b926c0", func := "loop.example/g00340/laws.FnExactReadFields", spec := "fnExactReadFields", apart := false, narrowed := true }
def FnExactReadFieldsUptoSaid : Prop := fnExactReadFieldsUptoRow.holds Try.pinned (OpenSpec.upto fnExactReadFieldsSpec)

/-- 'laws.FnExactSmtpOK', WHERE WHAT IT READS IS OF BULK AT MOST 1048576: true; the input reads as it did. -/
def fnExactSmtpOKUptoRow : OpenClaim := { program := "ytlfnpnkpjdmonaa", sum := "38949acacd802e3d8f78413283fea1400dfcf8e09ab9a2db90ff7d1f80b926c0", func := "loop.example/g00340/laws.FnExactSmtpOK", spec := "fnExactSmtpOK", unfollowed := true, recurses := true, apart := false, narrowed := true }
def FnExactSmtpOKUptoSaid : Prop := fnExactSmtpOKUptoRow.holds Try.pinned (OpenSpec.upto fnExactSmtpOKSpec)

/-- 'laws.FnExactSameState', WHERE WHAT IT READS IS OF BULK AT MOST 1048576: true; the input reads as it did. -/
def fnExactSameStateUptoRow : OpenClaim := { program := "ytlfnpnkpjdmonaa", sum := "38949acacd802e3d8f78413283fea1400dfcf8e09ab9a2db90ff7d1f80b926c0", func := "loop.example/g00340/laws.FnExactSameState", spec := "fnExactSameState", unfollowed := true, recurses := true, apart := false, narrowed := true }
def FnExactSameStateUptoSaid : Prop := fnExactSameStateUptoRow.holds Try.pinned (OpenSpec.upto fnExactSameStateSpec)

/-- 'laws.FnFields', WHERE WHAT IT READS IS OF BULK AT MOST 1048576: true; the input reads as it did. -/
def fnFieldsUptoRow : OpenClaim := { program := "ytlfnpnkpjdmonaa", sum := "38949acacd802e3d8f78413283fea1400dfcf8e09ab9a2db90ff7d1f80b926c0", func := "loop.example/g00340/laws.FnFields", spec := "fnFields", inPlace := ["internal/abi.NoEscape"], unfollowed := true, recurses := true, apart := false, narrowed := true }
def FnFieldsUptoSaid : Prop := fnFieldsUptoRow.holds Try.pinned (OpenSpec.upto fnFieldsSpec)

/-- 'laws.FnDiff', WHERE WHAT IT READS IS OF BULK AT MOST 1048576: true; the input reads as it did. -/
def fnDiffUptoRow : OpenClaim := { program := "ytlfnpnkpjdmonaa", sum := "38949acacd802e3d8f78413283fea1400dfcf8e09ab9a2db90ff7d1f80b926c0", func := "loop.example/g00340/laws.FnDiff", spec := "fnDiff", inPlace := ["internal/bytealg.abigen_runtime_cmpstring", "slices.overlaps[loop.example/g00340/impl.Pair]"], unfollowed := true, recurses := true, apart := false, narrowed := true }
def FnDiffUptoSaid : Prop := fnDiffUptoRow.holds Try.pinned (OpenSpec.upto fnDiffSpec)

/-- 'laws.FnPairs', WHERE WHAT IT READS IS OF BULK AT MOST 1048576: true; the input reads as it did. -/
def fnPairsUptoRow : OpenClaim := { program := "ytlfnpnkpjdmonaa", sum := "38949acacd802e3d8f78413283fea1400dfcf8e09ab9a2db90ff7d1f80b926c0", func := "loop.example/g00340/laws.FnPairs", spec := "fnPairs", inPlace := ["internal/bytealg.abigen_runtime_cmpstring", "slices.overlaps[loop.example/g00340/impl.Pair]"], unfollowed := true, recurses := true, apart := false, narrowed := true }
def FnPairsUptoSaid : Prop := fnPairsUptoRow.holds Try.pinned (OpenSpec.upto fnPairsSpec)

/-- 'laws.FnBackup', WHERE WHAT IT READS IS OF BULK AT MOST 1048576: true; the input reads as it did. -/
def fnBackupUptoRow : OpenClaim := { program := "ytlfnpnkpjdmonaa", sum := "38949acacd802e3d8f78413283fea1400dfcf8e09ab9a2db90ff7d1f80b926c0", func := "loop.example/g00340/laws.FnBackup", spec := "fnBackup", inPlace := ["internal/abi.NoEscape"], apart := false, narrowed := true }
def FnBackupUptoSaid : Prop := fnBackupUptoRow.holds Try.pinned (OpenSpec.upto fnBackupSpec)

/-- 'laws.FnExactReadNode', WHERE WHAT IT READS IS OF BULK AT MOST 1048576: true; the input reads as it did. -/
def fnExactReadNodeUptoRow : OpenClaim := { program := "ytlfnpnkpjdmonaa", sum := "38949acacd802e3d8f78413283fea1400dfcf8e09ab9a2db90ff7d1f80b926c0", func := "loop.example/g00340/laws.FnExactReadNode", spec := "fnExactReadNode", apart := false, narrowed := true }
def FnExactReadNodeUptoSaid : Prop := fnExactReadNodeUptoRow.holds Try.pinned (OpenSpec.upto fnExactReadNodeSpec)

/-- 'laws.FnExactArchiveBytes', WHERE WHAT IT READS IS OF BULK AT MOST 1048576: true; the input reads as it did. -/
def fnExactArchiveBytesUptoRow : OpenClaim := { program := "ytlfnpnkpjdmonaa", sum := "38949acacd802e3d8f78413283fea1400dfcf8e09ab9a2db90ff7d1f80b926c0", func := "loop.example/g00340/laws.FnExactArchiveBytes", spec := "fnExactArchiveBytes", inPlace := ["internal/abi.NoEscape"], unfollowed := true, recurses := true, apart := false, narrowed := true }
def FnExactArchiveBytesUptoSaid : Prop := fnExactArchiveBytesUptoRow.holds Try.pinned (OpenSpec.upto fnExactArchiveBytesSpec)

/-- 'laws.FnExactReadBackup', WHERE WHAT IT READS IS OF BULK AT MOST 1048576: true; the input reads as it did. -/
def fnExactReadBackupUptoRow : OpenClaim := { program := "ytlfnpnkpjdmonaa", sum := "38949acacd802e3d8f78413283fea1400dfcf8e09ab9a2db90ff7d1f80b926c0", func := "loop.example/g00340/laws.FnExactReadBackup", spec := "fnExactReadBackup", inPlace := ["internal/abi.NoEscape"], apart := false, narrowed := true }
def FnExactReadBackupUptoSaid : Prop := fnExactReadBackupUptoRow.holds Try.pinned (OpenSpec.upto fnExactReadBackupSpec)

/-- 'laws.FnReplay', WHERE WHAT IT READS IS OF BULK AT MOST 1048576: true; the input reads as it did. -/
def fnReplayUptoRow : OpenClaim := { program := "ytlfnpnkpjdmonaa", sum := "38949acacd802e3d8f78413283fea1400dfcf8e09ab9a2db90ff7d1f80b926c0", func := "loop.example/g00340/laws.FnReplay", spec := "fnReplay", inPlace := ["internal/abi.NoEscape", "internal/bytealg.abigen_runtime_cmpstring", "slices.overlaps[loop.example/g00340/impl.Pair]"], unfollowed := true, recurses := true, apart := false, narrowed := true }
def FnReplayUptoSaid : Prop := fnReplayUptoRow.holds Try.pinned (OpenSpec.upto fnReplaySpec)

/-- 'laws.FnNode', WHERE WHAT IT READS IS OF BULK AT MOST 1048576: true; the input reads as it did. -/
def fnNodeUptoRow : OpenClaim := { program := "ytlfnpnkpjdmonaa", sum := "38949acacd802e3d8f78413283fea1400dfcf8e09ab9a2db90ff7d1f80b926c0", func := "loop.example/g00340/laws.FnNode", spec := "fnNode", inPlace := ["internal/abi.NoEscape"], recurses := true, apart := false, narrowed := true }
def FnNodeUptoSaid : Prop := fnNodeUptoRow.holds Try.pinned (OpenSpec.upto fnNodeSpec)

/-- 'laws.FnExactRestoreArchive', WHERE WHAT IT READS IS OF BULK AT MOST 1048576: true; the input reads as it did. -/
def fnExactRestoreArchiveUptoRow : OpenClaim := { program := "ytlfnpnkpjdmonaa", sum := "38949acacd802e3d8f78413283fea1400dfcf8e09ab9a2db90ff7d1f80b926c0", func := "loop.example/g00340/laws.FnExactRestoreArchive", spec := "fnExactRestoreArchive", inPlace := ["internal/abi.NoEscape", "internal/bytealg.abigen_runtime_cmpstring", "slices.overlaps[loop.example/g00340/impl.Pair]"], unfollowed := true, recurses := true, apart := false, narrowed := true }
def FnExactRestoreArchiveUptoSaid : Prop := fnExactRestoreArchiveUptoRow.holds Try.pinned (OpenSpec.upto fnExactRestoreArchiveSpec)

end Rows
end Go.Proofs.Ytlfnpnkpjdmonaa
