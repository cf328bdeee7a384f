/-
  DERIVED. GIVEN WITH THE SEED: THE CARDS: each row of YtcempbgbdlmjfaaDoorRows.lean that lists a variable, with what it lists TIED to the program's text (the seventh form; the later family's looks); each row that meets fmt, with fmt's text TOLD by the authors' own Lean function (tested against real Go, not proved from fmt's source: count such statements apart). THE CARD IS WHAT COUNTS. Prove the row's statement (the work); the ties are given (YtcempbgbdlmjfaaDoorTie.lean); close each card by the builder's one call (the guide's Derived/Test/ToyasCard.lean, 'card_holds'). Laid BY PROGRAM, IN A SANDBOX (cutbox-door.mjs). By AI agents, Wed Nov 11 2026. No macro, syntax, notation, axiom, sorry.
-/
import Derived.Test.YtcempbgbdlmjfaaDoorRows
import GoSem.ClaimSeven
namespace Go.Proofs.YtcempbgbdlmjfaaDoor
namespace Rows

/-- THE TIED CARD OF 'lapwinglaw13.ModesApart'. -/
def modesApartCard : Claim7 := { stood := { row := modesApartRow, standIns := [], harness := (true, "b23fcfa9bb557be616e7756880d5bd46b98744fc3efab0cf58e63c77eaad7527"), looks := false }, kinds := [], alts := [], laidByText := true, laidKinds := [.data], laidTests := true, laidLooks := .later }
def ModesApartCardSaid : Prop := Claim7.holds Tryd.pinned (.plain (OpenSpec.ofChange modesApartSpec)) modesApartCard

/-- THE TIED CARD OF 'lapwinglaw13.ModesPlay'. -/
def modesPlayCard : Claim7 := { stood := { row := modesPlayRow, standIns := [], harness := (true, "b23fcfa9bb557be616e7756880d5bd46b98744fc3efab0cf58e63c77eaad7527"), looks := false }, kinds := [], alts := [], laidByText := true, laidKinds := [.data], laidTests := true, laidLooks := .later }
def ModesPlayCardSaid : Prop := Claim7.holds Tryd.pinned (.plain (OpenSpec.ofChange modesPlaySpec)) modesPlayCard

/-- THE TIED CARD OF 'lapwinglaw13.ModesNone'. -/
def modesNoneCard : Claim7 := { stood := { row := modesNoneRow, standIns := [], harness := (true, "b23fcfa9bb557be616e7756880d5bd46b98744fc3efab0cf58e63c77eaad7527"), looks := false }, kinds := [], alts := [], laidByText := true, laidKinds := [.data], laidTests := true, laidLooks := .later }
def ModesNoneCardSaid : Prop := Claim7.holds Tryd.pinned (.plain (OpenSpec.ofChange modesNoneSpec)) modesNoneCard

/-- THE TIED CARD OF 'lapwinglaw07.PenBack'. -/
def penBackCard : Claim7 := { stood := { row := penBackRow, standIns := [], harness := (true, "b23fcfa9bb557be616e7756880d5bd46b98744fc3efab0cf58e63c77eaad7527"), looks := false }, kinds := [], alts := [], laidByText := true, laidKinds := [.data, .data, .data], laidTests := true, laidLooks := .later }
def PenBackCardSaid : Prop := Claim7.holds Tryd.pinned (.plain (OpenSpec.ofChange penBackSpec)) penBackCard

/-- THE TIED CARD OF 'lapwinglaw07.PenColours'. -/
def penColoursCard : Claim7 := { stood := { row := penColoursRow, standIns := [], harness := (true, "b23fcfa9bb557be616e7756880d5bd46b98744fc3efab0cf58e63c77eaad7527"), looks := false }, kinds := [], alts := [], laidByText := true, laidKinds := [.data, .data, .data], laidTests := true, laidLooks := .later }
def PenColoursCardSaid : Prop := Claim7.holds Tryd.pinned (.plain (OpenSpec.ofChange penColoursSpec)) penColoursCard

/-- THE TIED CARD OF 'lapwinglaw07.PenFlags'. -/
def penFlagsCard : Claim7 := { stood := { row := penFlagsRow, standIns := [], harness := (true, "b23fcfa9bb557be616e7756880d5bd46b98744fc3efab0cf58e63c77eaad7527"), looks := false }, kinds := [], alts := [], laidByText := true, laidKinds := [.data, .data, .data], laidTests := true, laidLooks := .later }
def PenFlagsCardSaid : Prop := Claim7.holds Tryd.pinned (.plain (OpenSpec.ofChange penFlagsSpec)) penFlagsCard

/-- THE TIED CARD OF 'lapwinglaw07.PenParts'. -/
def penPartsCard : Claim7 := { stood := { row := penPartsRow, standIns := [], harness := (true, "b23fcfa9bb557be616e7756880d5bd46b98744fc3efab0cf58e63c77eaad7527"), looks := false }, kinds := [], alts := [], laidByText := true, laidKinds := [.data, .data, .data], laidTests := true, laidLooks := .later }
def PenPartsCardSaid : Prop := Claim7.holds Tryd.pinned (.plain (OpenSpec.ofChange penPartsSpec)) penPartsCard

/-- THE TIED CARD OF 'lapwinglaw07.PenStays'. -/
def penStaysCard : Claim7 := { stood := { row := penStaysRow, standIns := [], harness := (true, "b23fcfa9bb557be616e7756880d5bd46b98744fc3efab0cf58e63c77eaad7527"), looks := false }, kinds := [], alts := [], laidByText := true, laidKinds := [.data, .data, .data], laidTests := true, laidLooks := .later }
def PenStaysCardSaid : Prop := Claim7.holds Tryd.pinned (.plain (OpenSpec.ofChange penStaysSpec)) penStaysCard

/-- THE TIED CARD OF 'lapwinglaw05.ParamsStays'. -/
def paramsStaysCard : Claim7 := { stood := { row := paramsStaysRow, standIns := [], harness := (true, "b23fcfa9bb557be616e7756880d5bd46b98744fc3efab0cf58e63c77eaad7527"), looks := false }, kinds := [], alts := [], laidByText := true, laidKinds := [.data, .data, .data], laidTests := true, laidLooks := .later }
def ParamsStaysCardSaid : Prop := Claim7.holds Tryd.pinned (.plain (OpenSpec.ofChange paramsStaysSpec)) paramsStaysCard

/-- THE TIED CARD OF 'lapwinglaw05.ParamsBack'. -/
def paramsBackCard : Claim7 := { stood := { row := paramsBackRow, standIns := [], harness := (true, "b23fcfa9bb557be616e7756880d5bd46b98744fc3efab0cf58e63c77eaad7527"), looks := false }, kinds := [], alts := [], laidByText := true, laidKinds := [.data, .data, .data], laidTests := true, laidLooks := .later }
def ParamsBackCardSaid : Prop := Claim7.holds Tryd.pinned (.plain (OpenSpec.ofChange paramsBackSpec)) paramsBackCard

/-- THE TIED CARD OF 'lapwinglaw22.MouseQuiet'. -/
def mouseQuietCard : Claim7 := { stood := { row := mouseQuietRow, standIns := [], harness := (true, "b23fcfa9bb557be616e7756880d5bd46b98744fc3efab0cf58e63c77eaad7527"), looks := false }, kinds := [], alts := [], laidByText := true, laidKinds := [.data, .data, .data, .data], laidTests := true, laidLooks := .later }
def MouseQuietCardSaid : Prop := Claim7.holds Tryd.pinned (.plain (OpenSpec.ofChange mouseQuietSpec)) mouseQuietCard

/-- THE TIED CARD OF 'lapwinglaw22.MousePlace'. -/
def mousePlaceCard : Claim7 := { stood := { row := mousePlaceRow, standIns := [], harness := (true, "b23fcfa9bb557be616e7756880d5bd46b98744fc3efab0cf58e63c77eaad7527"), looks := false }, kinds := [], alts := [], laidByText := true, laidKinds := [.data, .data, .data, .data], laidTests := true, laidLooks := .later }
def MousePlaceCardSaid : Prop := Claim7.holds Tryd.pinned (.plain (OpenSpec.ofChange mousePlaceSpec)) mousePlaceCard

/-- THE TIED CARD OF 'lapwinglaw06.ParseCuts'. -/
def parseCutsCard : Claim7 := { stood := { row := parseCutsRow, standIns := [], harness := (true, "b23fcfa9bb557be616e7756880d5bd46b98744fc3efab0cf58e63c77eaad7527"), looks := false }, kinds := [], alts := [], laidByText := true, laidKinds := [.data, .data, .data], laidTests := true, laidLooks := .later }
def ParseCutsCardSaid : Prop := Claim7.holds Tryd.pinned (.plain (OpenSpec.ofChange parseCutsSpec)) parseCutsCard

/-- THE TIED CARD OF 'lapwinglaw06.ParseGround'. -/
def parseGroundCard : Claim7 := { stood := { row := parseGroundRow, standIns := [], harness := (true, "b23fcfa9bb557be616e7756880d5bd46b98744fc3efab0cf58e63c77eaad7527"), looks := false }, kinds := [], alts := [], laidByText := true, laidKinds := [.data, .data, .data], laidTests := true, laidLooks := .later }
def ParseGroundCardSaid : Prop := Claim7.holds Tryd.pinned (.plain (OpenSpec.ofChange parseGroundSpec)) parseGroundCard

/-- THE TIED CARD OF 'lapwinglaw06.ParseText'. -/
def parseTextCard : Claim7 := { stood := { row := parseTextRow, standIns := [], harness := (true, "b23fcfa9bb557be616e7756880d5bd46b98744fc3efab0cf58e63c77eaad7527"), looks := false }, kinds := [], alts := [], laidByText := true, laidKinds := [.data, .data, .data], laidTests := true, laidLooks := .later }
def ParseTextCardSaid : Prop := Claim7.holds Tryd.pinned (.plain (OpenSpec.ofChange parseTextSpec)) parseTextCard

/-- THE TIED CARD OF 'lapwinglaw06.ParseFew'. -/
def parseFewCard : Claim7 := { stood := { row := parseFewRow, standIns := [], harness := (true, "b23fcfa9bb557be616e7756880d5bd46b98744fc3efab0cf58e63c77eaad7527"), looks := false }, kinds := [], alts := [], laidByText := true, laidKinds := [.data, .data, .data], laidTests := true, laidLooks := .later }
def ParseFewCardSaid : Prop := Claim7.holds Tryd.pinned (.plain (OpenSpec.ofChange parseFewSpec)) parseFewCard

/-- THE TIED CARD OF 'lapwinglaw06.ParseCsi'. -/
def parseCsiCard : Claim7 := { stood := { row := parseCsiRow, standIns := [], harness := (true, "b23fcfa9bb557be616e7756880d5bd46b98744fc3efab0cf58e63c77eaad7527"), looks := false }, kinds := [], alts := [], laidByText := true, laidKinds := [.data, .data, .data], laidTests := true, laidLooks := .later }
def ParseCsiCardSaid : Prop := Claim7.holds Tryd.pinned (.plain (OpenSpec.ofChange parseCsiSpec)) parseCsiCard

/-- THE TIED CARD OF 'lapwinglaw22.MouseTells'. -/
def mouseTellsCard : Claim7 := { stood := { row := mouseTellsRow, standIns := [], harness := (true, "b23fcfa9bb557be616e7756880d5bd46b98744fc3efab0cf58e63c77eaad7527"), looks := false }, kinds := [], alts := [], laidByText := true, laidKinds := [.data, .data, .data, .data], laidTests := true, laidLooks := .later }
def MouseTellsCardSaid : Prop := Claim7.holds Tryd.pinned (.plain (OpenSpec.ofChange mouseTellsSpec)) mouseTellsCard

/-- THE SECOND FORM's CARD OF 'lapwinglaw13.ModesApart'. -/
def modesApartUptoCard : Claim7 := { stood := { row := modesApartUptoRow, standIns := [], harness := (true, "b23fcfa9bb557be616e7756880d5bd46b98744fc3efab0cf58e63c77eaad7527"), looks := false }, kinds := [], alts := [], laidByText := true, laidKinds := [.data], laidTests := true, laidLooks := .later }
def ModesApartUptoCardSaid : Prop := Claim7.holds Tryd.pinned (.plain (OpenSpec.upto modesApartSpec)) modesApartUptoCard

/-- THE SECOND FORM's CARD OF 'lapwinglaw13.ModesPlay'. -/
def modesPlayUptoCard : Claim7 := { stood := { row := modesPlayUptoRow, standIns := [], harness := (true, "b23fcfa9bb557be616e7756880d5bd46b98744fc3efab0cf58e63c77eaad7527"), looks := false }, kinds := [], alts := [], laidByText := true, laidKinds := [.data], laidTests := true, laidLooks := .later }
def ModesPlayUptoCardSaid : Prop := Claim7.holds Tryd.pinned (.plain (OpenSpec.upto modesPlaySpec)) modesPlayUptoCard

/-- THE SECOND FORM's CARD OF 'lapwinglaw13.ModesNone'. -/
def modesNoneUptoCard : Claim7 := { stood := { row := modesNoneUptoRow, standIns := [], harness := (true, "b23fcfa9bb557be616e7756880d5bd46b98744fc3efab0cf58e63c77eaad7527"), looks := false }, kinds := [], alts := [], laidByText := true, laidKinds := [.data], laidTests := true, laidLooks := .later }
def ModesNoneUptoCardSaid : Prop := Claim7.holds Tryd.pinned (.plain (OpenSpec.upto modesNoneSpec)) modesNoneUptoCard

/-- THE SECOND FORM's CARD OF 'lapwinglaw07.PenBack'. -/
def penBackUptoCard : Claim7 := { stood := { row := penBackUptoRow, standIns := [], harness := (true, "b23fcfa9bb557be616e7756880d5bd46b98744fc3efab0cf58e63c77eaad7527"), looks := false }, kinds := [], alts := [], laidByText := true, laidKinds := [.data, .data, .data], laidTests := true, laidLooks := .later }
def PenBackUptoCardSaid : Prop := Claim7.holds Tryd.pinned (.plain (OpenSpec.upto penBackSpec)) penBackUptoCard

/-- THE SECOND FORM's CARD OF 'lapwinglaw07.PenColours'. -/
def penColoursUptoCard : Claim7 := { stood := { row := penColoursUptoRow, standIns := [], harness := (true, "b23fcfa9bb557be616e7756880d5bd46b98744fc3efab0cf58e63c77eaad7527"), looks := false }, kinds := [], alts := [], laidByText := true, laidKinds := [.data, .data, .data], laidTests := true, laidLooks := .later }
def PenColoursUptoCardSaid : Prop := Claim7.holds Tryd.pinned (.plain (OpenSpec.upto penColoursSpec)) penColoursUptoCard

/-- THE SECOND FORM's CARD OF 'lapwinglaw07.PenFlags'. -/
def penFlagsUptoCard : Claim7 := { stood := { row := penFlagsUptoRow, standIns := [], harness := (true, "b23fcfa9bb557be616e7756880d5bd46b98744fc3efab0cf58e63c77eaad7527"), looks := false }, kinds := [], alts := [], laidByText := true, laidKinds := [.data, .data, .data], laidTests := true, laidLooks := .later }
def PenFlagsUptoCardSaid : Prop := Claim7.holds Tryd.pinned (.plain (OpenSpec.upto penFlagsSpec)) penFlagsUptoCard

/-- THE SECOND FORM's CARD OF 'lapwinglaw07.PenParts'. -/
def penPartsUptoCard : Claim7 := { stood := { row := penPartsUptoRow, standIns := [], harness := (true, "b23fcfa9bb557be616e7756880d5bd46b98744fc3efab0cf58e63c77eaad7527"), looks := false }, kinds := [], alts := [], laidByText := true, laidKinds := [.data, .data, .data], laidTests := true, laidLooks := .later }
def PenPartsUptoCardSaid : Prop := Claim7.holds Tryd.pinned (.plain (OpenSpec.upto penPartsSpec)) penPartsUptoCard

/-- THE SECOND FORM's CARD OF 'lapwinglaw07.PenStays'. -/
def penStaysUptoCard : Claim7 := { stood := { row := penStaysUptoRow, standIns := [], harness := (true, "b23fcfa9bb557be616e7756880d5bd46b98744fc3efab0cf58e63c77eaad7527"), looks := false }, kinds := [], alts := [], laidByText := true, laidKinds := [.data, .data, .data], laidTests := true, laidLooks := .later }
def PenStaysUptoCardSaid : Prop := Claim7.holds Tryd.pinned (.plain (OpenSpec.upto penStaysSpec)) penStaysUptoCard

/-- THE SECOND FORM's CARD OF 'lapwinglaw05.ParamsStays'. -/
def paramsStaysUptoCard : Claim7 := { stood := { row := paramsStaysUptoRow, standIns := [], harness := (true, "b23fcfa9bb557be616e7756880d5bd46b98744fc3efab0cf58e63c77eaad7527"), looks := false }, kinds := [], alts := [], laidByText := true, laidKinds := [.data, .data, .data], laidTests := true, laidLooks := .later }
def ParamsStaysUptoCardSaid : Prop := Claim7.holds Tryd.pinned (.plain (OpenSpec.upto paramsStaysSpec)) paramsStaysUptoCard

/-- THE SECOND FORM's CARD OF 'lapwinglaw05.ParamsBack'. -/
def paramsBackUptoCard : Claim7 := { stood := { row := paramsBackUptoRow, standIns := [], harness := (true, "b23fcfa9bb557be616e7756880d5bd46b98744fc3efab0cf58e63c77eaad7527"), looks := false }, kinds := [], alts := [], laidByText := true, laidKinds := [.data, .data, .data], laidTests := true, laidLooks := .later }
def ParamsBackUptoCardSaid : Prop := Claim7.holds Tryd.pinned (.plain (OpenSpec.upto paramsBackSpec)) paramsBackUptoCard

/-- THE SECOND FORM's CARD OF 'lapwinglaw22.MouseQuiet'. -/
def mouseQuietUptoCard : Claim7 := { stood := { row := mouseQuietUptoRow, standIns := [], harness := (true, "b23fcfa9bb557be616e7756880d5bd46b98744fc3efab0cf58e63c77eaad7527"), looks := false }, kinds := [], alts := [], laidByText := true, laidKinds := [.data, .data, .data, .data], laidTests := true, laidLooks := .later }
def MouseQuietUptoCardSaid : Prop := Claim7.holds Tryd.pinned (.plain (OpenSpec.upto mouseQuietSpec)) mouseQuietUptoCard

/-- THE SECOND FORM's CARD OF 'lapwinglaw22.MousePlace'. -/
def mousePlaceUptoCard : Claim7 := { stood := { row := mousePlaceUptoRow, standIns := [], harness := (true, "b23fcfa9bb557be616e7756880d5bd46b98744fc3efab0cf58e63c77eaad7527"), looks := false }, kinds := [], alts := [], laidByText := true, laidKinds := [.data, .data, .data, .data], laidTests := true, laidLooks := .later }
def MousePlaceUptoCardSaid : Prop := Claim7.holds Tryd.pinned (.plain (OpenSpec.upto mousePlaceSpec)) mousePlaceUptoCard

/-- THE SECOND FORM's CARD OF 'lapwinglaw06.ParseCuts'. -/
def parseCutsUptoCard : Claim7 := { stood := { row := parseCutsUptoRow, standIns := [], harness := (true, "b23fcfa9bb557be616e7756880d5bd46b98744fc3efab0cf58e63c77eaad7527"), looks := false }, kinds := [], alts := [], laidByText := true, laidKinds := [.data, .data, .data], laidTests := true, laidLooks := .later }
def ParseCutsUptoCardSaid : Prop := Claim7.holds Tryd.pinned (.plain (OpenSpec.upto parseCutsSpec)) parseCutsUptoCard

/-- THE SECOND FORM's CARD OF 'lapwinglaw06.ParseGround'. -/
def parseGroundUptoCard : Claim7 := { stood := { row := parseGroundUptoRow, standIns := [], harness := (true, "b23fcfa9bb557be616e7756880d5bd46b98744fc3efab0cf58e63c77eaad7527"), looks := false }, kinds := [], alts := [], laidByText := true, laidKinds := [.data, .data, .data], laidTests := true, laidLooks := .later }
def ParseGroundUptoCardSaid : Prop := Claim7.holds Tryd.pinned (.plain (OpenSpec.upto parseGroundSpec)) parseGroundUptoCard

/-- THE SECOND FORM's CARD OF 'lapwinglaw06.ParseText'. -/
def parseTextUptoCard : Claim7 := { stood := { row := parseTextUptoRow, standIns := [], harness := (true, "b23fcfa9bb557be616e7756880d5bd46b98744fc3efab0cf58e63c77eaad7527"), looks := false }, kinds := [], alts := [], laidByText := true, laidKinds := [.data, .data, .data], laidTests := true, laidLooks := .later }
def ParseTextUptoCardSaid : Prop := Claim7.holds Tryd.pinned (.plain (OpenSpec.upto parseTextSpec)) parseTextUptoCard

/-- THE SECOND FORM's CARD OF 'lapwinglaw06.ParseFew'. -/
def parseFewUptoCard : Claim7 := { stood := { row := parseFewUptoRow, standIns := [], harness := (true, "b23fcfa9bb557be616e7756880d5bd46b98744fc3efab0cf58e63c77eaad7527"), looks := false }, kinds := [], alts := [], laidByText := true, laidKinds := [.data, .data, .data], laidTests := true, laidLooks := .later }
def ParseFewUptoCardSaid : Prop := Claim7.holds Tryd.pinned (.plain (OpenSpec.upto parseFewSpec)) parseFewUptoCard

/-- THE SECOND FORM's CARD OF 'lapwinglaw06.ParseCsi'. -/
def parseCsiUptoCard : Claim7 := { stood := { row := parseCsiUptoRow, standIns := [], harness := (true, "b23fcfa9bb557be616e7756880d5bd46b98744fc3efab0cf58e63c77eaad7527"), looks := false }, kinds := [], alts := [], laidByText := true, laidKinds := [.data, .data, .data], laidTests := true, laidLooks := .later }
def ParseCsiUptoCardSaid : Prop := Claim7.holds Tryd.pinned (.plain (OpenSpec.upto parseCsiSpec)) parseCsiUptoCard

/-- THE SECOND FORM's CARD OF 'lapwinglaw22.MouseTells'. -/
def mouseTellsUptoCard : Claim7 := { stood := { row := mouseTellsUptoRow, standIns := [], harness := (true, "b23fcfa9bb557be616e7756880d5bd46b98744fc3efab0cf58e63c77eaad7527"), looks := false }, kinds := [], alts := [], laidByText := true, laidKinds := [.data, .data, .data, .data], laidTests := true, laidLooks := .later }
def MouseTellsUptoCardSaid : Prop := Claim7.holds Tryd.pinned (.plain (OpenSpec.upto mouseTellsSpec)) mouseTellsUptoCard
end Rows
end Go.Proofs.YtcempbgbdlmjfaaDoor
