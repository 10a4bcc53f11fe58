/-
  DERIVED. GIVEN WITH THE SEED: THE CARDS: each row of YtlfnpnkpjdmonaaDoorRows.lean that lists a variable, with what it lists TIED to the program's text (the seventh form; the later family's looks); each row that meets fmt, with fmt's text TOLD by the authors' own Lean function (tested against real Go, not proved from fmt's source: count such statements apart). THE CARD IS WHAT COUNTS. Prove the row's statement (the work); the ties are given (YtlfnpnkpjdmonaaDoorTie.lean); close each card by the builder's one call (the guide's Derived/Test/ToyasCard.lean, 'card_holds'). Laid BY PROGRAM, IN A SANDBOX (cutbox-door.mjs). By AI agents, Wed Nov 11 2026. No macro, syntax, notation, axiom, sorry.
-/
import Derived.Test.YtlfnpnkpjdmonaaDoorRows
import GoSem.ClaimSeven
namespace Go.Proofs.YtlfnpnkpjdmonaaDoor
namespace Rows

/-- THE TIED CARD OF 'laws.FnExactMessageOK'. -/
def fnExactMessageOKCard : Claim7 := { stood := { row := fnExactMessageOKRow, standIns := [], harness := (true, "a97576e0b56365ea0bdacdac97cfea5fd0ecb66bc38648dfe16dd45acbe255d1"), looks := true }, kinds := [], alts := [], laidByText := true, laidKinds := [.data, .pinned], laidTests := true, laidLooks := .later }
def FnExactMessageOKCardSaid : Prop := Claim7.holds Tryd.pinned (.plain (OpenSpec.ofChange fnExactMessageOKSpec)) fnExactMessageOKCard

/-- THE TIED CARD OF 'laws.FnExactFieldOf'. -/
def fnExactFieldOfCard : Claim7 := { stood := { row := fnExactFieldOfRow, standIns := [], harness := (true, "a97576e0b56365ea0bdacdac97cfea5fd0ecb66bc38648dfe16dd45acbe255d1"), looks := true }, kinds := [], alts := [], laidByText := true, laidKinds := [.data, .pinned], laidTests := true, laidLooks := .later }
def FnExactFieldOfCardSaid : Prop := Claim7.holds Tryd.pinned (.plain (OpenSpec.ofChange fnExactFieldOfSpec)) fnExactFieldOfCard

/-- THE TIED CARD OF 'laws.FnExactParseMessage'. -/
def fnExactParseMessageCard : Claim7 := { stood := { row := fnExactParseMessageRow, standIns := [], harness := (true, "a97576e0b56365ea0bdacdac97cfea5fd0ecb66bc38648dfe16dd45acbe255d1"), looks := true }, kinds := [], alts := [], laidByText := true, laidKinds := [.data, .pinned], laidTests := true, laidLooks := .later }
def FnExactParseMessageCardSaid : Prop := Claim7.holds Tryd.pinned (.plain (OpenSpec.ofChange fnExactParseMessageSpec)) fnExactParseMessageCard

/-- THE TIED CARD OF 'laws.FnExactSearchMails'. -/
def fnExactSearchMailsCard : Claim7 := { stood := { row := fnExactSearchMailsRow, standIns := [], harness := (true, "a97576e0b56365ea0bdacdac97cfea5fd0ecb66bc38648dfe16dd45acbe255d1"), looks := true }, kinds := [], alts := [], laidByText := true, laidKinds := [.data, .pinned], laidTests := true, laidLooks := .later }
def FnExactSearchMailsCardSaid : Prop := Claim7.holds Tryd.pinned (.plain (OpenSpec.ofChange fnExactSearchMailsSpec)) fnExactSearchMailsCard

/-- THE TIED CARD OF 'laws.FnMessage'. -/
def fnMessageCard : Claim7 := { stood := { row := fnMessageRow, standIns := [], harness := (true, "a97576e0b56365ea0bdacdac97cfea5fd0ecb66bc38648dfe16dd45acbe255d1"), looks := true }, kinds := [], alts := [], laidByText := true, laidKinds := [.data, .pinned], laidTests := true, laidLooks := .later }
def FnMessageCardSaid : Prop := Claim7.holds Tryd.pinned (.plain (OpenSpec.ofChange fnMessageSpec)) fnMessageCard

/-- THE TIED CARD OF 'laws.FnExactReadLine'. -/
def fnExactReadLineCard : Claim7 := { stood := { row := fnExactReadLineRow, standIns := [], harness := (true, "a97576e0b56365ea0bdacdac97cfea5fd0ecb66bc38648dfe16dd45acbe255d1"), looks := true }, kinds := [], alts := [], laidByText := true, laidKinds := [.data, .data, .data, .sentinel, .sentinel], laidTests := true, laidLooks := .later }
def FnExactReadLineCardSaid : Prop := Claim7.holds Tryd.pinned (.plain (OpenSpec.ofChange fnExactReadLineSpec)) fnExactReadLineCard

/-- THE SECOND FORM's CARD OF 'laws.FnExactMessageOK'. -/
def fnExactMessageOKUptoCard : Claim7 := { stood := { row := fnExactMessageOKUptoRow, standIns := [], harness := (true, "a97576e0b56365ea0bdacdac97cfea5fd0ecb66bc38648dfe16dd45acbe255d1"), looks := true }, kinds := [], alts := [], laidByText := true, laidKinds := [.data, .pinned], laidTests := true, laidLooks := .later }
def FnExactMessageOKUptoCardSaid : Prop := Claim7.holds Tryd.pinned (.plain (OpenSpec.upto fnExactMessageOKSpec)) fnExactMessageOKUptoCard

/-- THE SECOND FORM's CARD OF 'laws.FnExactFieldOf'. -/
def fnExactFieldOfUptoCard : Claim7 := { stood := { row := fnExactFieldOfUptoRow, standIns := [], harness := (true, "a97576e0b56365ea0bdacdac97cfea5fd0ecb66bc38648dfe16dd45acbe255d1"), looks := true }, kinds := [], alts := [], laidByText := true, laidKinds := [.data, .pinned], laidTests := true, laidLooks := .later }
def FnExactFieldOfUptoCardSaid : Prop := Claim7.holds Tryd.pinned (.plain (OpenSpec.upto fnExactFieldOfSpec)) fnExactFieldOfUptoCard

/-- THE SECOND FORM's CARD OF 'laws.FnExactParseMessage'. -/
def fnExactParseMessageUptoCard : Claim7 := { stood := { row := fnExactParseMessageUptoRow, standIns := [], harness := (true, "a97576e0b56365ea0bdacdac97cfea5fd0ecb66bc38648dfe16dd45acbe255d1"), looks := true }, kinds := [], alts := [], laidByText := true, laidKinds := [.data, .pinned], laidTests := true, laidLooks := .later }
def FnExactParseMessageUptoCardSaid : Prop := Claim7.holds Tryd.pinned (.plain (OpenSpec.upto fnExactParseMessageSpec)) fnExactParseMessageUptoCard

/-- THE SECOND FORM's CARD OF 'laws.FnExactSearchMails'. -/
def fnExactSearchMailsUptoCard : Claim7 := { stood := { row := fnExactSearchMailsUptoRow, standIns := [], harness := (true, "a97576e0b56365ea0bdacdac97cfea5fd0ecb66bc38648dfe16dd45acbe255d1"), looks := true }, kinds := [], alts := [], laidByText := true, laidKinds := [.data, .pinned], laidTests := true, laidLooks := .later }
def FnExactSearchMailsUptoCardSaid : Prop := Claim7.holds Tryd.pinned (.plain (OpenSpec.upto fnExactSearchMailsSpec)) fnExactSearchMailsUptoCard

/-- THE SECOND FORM's CARD OF 'laws.FnMessage'. -/
def fnMessageUptoCard : Claim7 := { stood := { row := fnMessageUptoRow, standIns := [], harness := (true, "a97576e0b56365ea0bdacdac97cfea5fd0ecb66bc38648dfe16dd45acbe255d1"), looks := true }, kinds := [], alts := [], laidByText := true, laidKinds := [.data, .pinned], laidTests := true, laidLooks := .later }
def FnMessageUptoCardSaid : Prop := Claim7.holds Tryd.pinned (.plain (OpenSpec.upto fnMessageSpec)) fnMessageUptoCard

/-- THE SECOND FORM's CARD OF 'laws.FnExactReadLine'. -/
def fnExactReadLineUptoCard : Claim7 := { stood := { row := fnExactReadLineUptoRow, standIns := [], harness := (true, "a97576e0b56365ea0bdacdac97cfea5fd0ecb66bc38648dfe16dd45acbe255d1"), looks := true }, kinds := [], alts := [], laidByText := true, laidKinds := [.data, .data, .data, .sentinel, .sentinel], laidTests := true, laidLooks := .later }
def FnExactReadLineUptoCardSaid : Prop := Claim7.holds Tryd.pinned (.plain (OpenSpec.upto fnExactReadLineSpec)) fnExactReadLineUptoCard
end Rows
end Go.Proofs.YtlfnpnkpjdmonaaDoor
