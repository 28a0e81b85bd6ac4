/-
  DERIVED. GIVEN WITH THE SEED: THE CARDS: each row of YtbmkjjoehancbaaDoorRows.lean that lists a variable, with what it lists TIED to the program's text (the seventh form; the later family's looks); each row that meets fmt, with fmt's text TOLD by the authors' own Lean function (tested against real Go, not proved from fmt's source: count such statements apart). THE CARD IS WHAT COUNTS. Prove the row's statement (the work); the ties are given (YtbmkjjoehancbaaDoorTie.lean); close each card by the builder's one call (the guide's Derived/Test/ToyasCard.lean, 'card_holds'). Laid BY PROGRAM, IN A SANDBOX (cutbox-door.mjs). By AI agents, Wed Nov 11 2026. No macro, syntax, notation, axiom, sorry.
-/
import Derived.Test.YtbmkjjoehancbaaDoorRows
import GoSem.ClaimSeven
namespace Go.Proofs.YtbmkjjoehancbaaDoor
namespace Rows

/-- THE TIED CARD OF 'redpencillaw03.CrcSums'. -/
def crcSumsCard : Claim7 := { stood := { row := crcSumsRow, standIns := [], harness := (true, "ad85173f9acab9666327982ba95bff7f86e100dca0edf720a79b22e0c86f5c82"), looks := true }, kinds := [], alts := [], laidByText := true, laidKinds := [.data, .data, .data, .sentinel, .sentinel], laidTests := true, laidLooks := .later }
def CrcSumsCardSaid : Prop := Claim7.holds Tryd.pinned (.plain (OpenSpec.ofChange crcSumsSpec)) crcSumsCard

/-- THE TIED CARD OF 'redpencillaw03.CrcOpens'. -/
def crcOpensCard : Claim7 := { stood := { row := crcOpensRow, standIns := [], harness := (true, "ad85173f9acab9666327982ba95bff7f86e100dca0edf720a79b22e0c86f5c82"), looks := true }, kinds := [], alts := [], laidByText := true, laidKinds := [.data, .data, .data, .sentinel, .sentinel], laidTests := true, laidLooks := .later }
def CrcOpensCardSaid : Prop := Claim7.holds Tryd.pinned (.plain (OpenSpec.ofChange crcOpensSpec)) crcOpensCard

/-- THE TIED CARD OF 'redpencillaw03.CrcLongs'. -/
def crcLongsCard : Claim7 := { stood := { row := crcLongsRow, standIns := [], harness := (true, "ad85173f9acab9666327982ba95bff7f86e100dca0edf720a79b22e0c86f5c82"), looks := true }, kinds := [], alts := [], laidByText := true, laidKinds := [.data, .data, .data, .sentinel, .sentinel], laidTests := true, laidLooks := .later }
def CrcLongsCardSaid : Prop := Claim7.holds Tryd.pinned (.plain (OpenSpec.ofChange crcLongsSpec)) crcLongsCard

/-- THE TIED CARD OF 'redpencillaw03.CrcTexts'. -/
def crcTextsCard : Claim7 := { stood := { row := crcTextsRow, standIns := [], harness := (true, "ad85173f9acab9666327982ba95bff7f86e100dca0edf720a79b22e0c86f5c82"), looks := true }, kinds := [], alts := [], laidByText := true, laidKinds := [.data, .data, .data, .sentinel, .sentinel], laidTests := true, laidLooks := .later }
def CrcTextsCardSaid : Prop := Claim7.holds Tryd.pinned (.plain (OpenSpec.ofChange crcTextsSpec)) crcTextsCard

/-- THE TIED CARD OF 'redpencillaw03.CrcHolds'. -/
def crcHoldsCard : Claim7 := { stood := { row := crcHoldsRow, standIns := [], harness := (true, "ad85173f9acab9666327982ba95bff7f86e100dca0edf720a79b22e0c86f5c82"), looks := true }, kinds := [], alts := [], laidByText := true, laidKinds := [.data, .data, .data, .sentinel, .sentinel], laidTests := true, laidLooks := .later }
def CrcHoldsCardSaid : Prop := Claim7.holds Tryd.pinned (.plain (OpenSpec.ofChange crcHoldsSpec)) crcHoldsCard

/-- THE SECOND FORM's CARD OF 'redpencillaw03.CrcSums'. -/
def crcSumsUptoCard : Claim7 := { stood := { row := crcSumsUptoRow, standIns := [], harness := (true, "ad85173f9acab9666327982ba95bff7f86e100dca0edf720a79b22e0c86f5c82"), looks := true }, kinds := [], alts := [], laidByText := true, laidKinds := [.data, .data, .data, .sentinel, .sentinel], laidTests := true, laidLooks := .later }
def CrcSumsUptoCardSaid : Prop := Claim7.holds Tryd.pinned (.plain (OpenSpec.upto crcSumsSpec)) crcSumsUptoCard

/-- THE SECOND FORM's CARD OF 'redpencillaw03.CrcOpens'. -/
def crcOpensUptoCard : Claim7 := { stood := { row := crcOpensUptoRow, standIns := [], harness := (true, "ad85173f9acab9666327982ba95bff7f86e100dca0edf720a79b22e0c86f5c82"), looks := true }, kinds := [], alts := [], laidByText := true, laidKinds := [.data, .data, .data, .sentinel, .sentinel], laidTests := true, laidLooks := .later }
def CrcOpensUptoCardSaid : Prop := Claim7.holds Tryd.pinned (.plain (OpenSpec.upto crcOpensSpec)) crcOpensUptoCard

/-- THE SECOND FORM's CARD OF 'redpencillaw03.CrcLongs'. -/
def crcLongsUptoCard : Claim7 := { stood := { row := crcLongsUptoRow, standIns := [], harness := (true, "ad85173f9acab9666327982ba95bff7f86e100dca0edf720a79b22e0c86f5c82"), looks := true }, kinds := [], alts := [], laidByText := true, laidKinds := [.data, .data, .data, .sentinel, .sentinel], laidTests := true, laidLooks := .later }
def CrcLongsUptoCardSaid : Prop := Claim7.holds Tryd.pinned (.plain (OpenSpec.upto crcLongsSpec)) crcLongsUptoCard

/-- THE SECOND FORM's CARD OF 'redpencillaw03.CrcTexts'. -/
def crcTextsUptoCard : Claim7 := { stood := { row := crcTextsUptoRow, standIns := [], harness := (true, "ad85173f9acab9666327982ba95bff7f86e100dca0edf720a79b22e0c86f5c82"), looks := true }, kinds := [], alts := [], laidByText := true, laidKinds := [.data, .data, .data, .sentinel, .sentinel], laidTests := true, laidLooks := .later }
def CrcTextsUptoCardSaid : Prop := Claim7.holds Tryd.pinned (.plain (OpenSpec.upto crcTextsSpec)) crcTextsUptoCard

/-- THE SECOND FORM's CARD OF 'redpencillaw03.CrcHolds'. -/
def crcHoldsUptoCard : Claim7 := { stood := { row := crcHoldsUptoRow, standIns := [], harness := (true, "ad85173f9acab9666327982ba95bff7f86e100dca0edf720a79b22e0c86f5c82"), looks := true }, kinds := [], alts := [], laidByText := true, laidKinds := [.data, .data, .data, .sentinel, .sentinel], laidTests := true, laidLooks := .later }
def CrcHoldsUptoCardSaid : Prop := Claim7.holds Tryd.pinned (.plain (OpenSpec.upto crcHoldsSpec)) crcHoldsUptoCard
end Rows
end Go.Proofs.YtbmkjjoehancbaaDoor
