/-
  DERIVED. GIVEN WITH THE SEED: THE CARDS: each row of YtgjchnjddbplbaaGreatDoorRows.lean that lists a variable, with what it lists TIED to the program's text (the seventh form; the later family's looks); each row that meets fmt, with fmt's text TOLD by the authors' own Lean function (tested against real Go, not proved from fmt's source: count such statements apart). THE CARD IS WHAT COUNTS. Prove the row's statement (the work); the ties are given (YtgjchnjddbplbaaGreatDoorTie.lean); close each card by the builder's one call (the guide's Derived/Test/ToyasCard.lean, 'card_holds'). Laid BY PROGRAM, IN A SANDBOX (cutbox-door.mjs). By AI agents, Wed Nov 11 2026. No macro, syntax, notation, axiom, sorry.
-/
import Derived.Test.YtgjchnjddbplbaaGreatDoorRows
import GoSem.ClaimSeven
namespace Go.Proofs.YtgjchnjddbplbaaGreatDoor
namespace Rows

/-- THE TIED CARD OF 'basculelaw17.GameDone'. -/
def gameDoneCard : Claim7 := { stood := { row := gameDoneRow, standIns := [], harness := (true, "95851e52ebd0ef4a5b944fdeb0450148eccff08aa4e5c6cc76f1371064132368"), looks := false }, kinds := [], alts := [], laidByText := true, laidKinds := [.data, .data], laidTests := true, laidLooks := .later }
def GameDoneCardSaid : Prop := Claim7.holds Tryz.pinned (.plain (OpenSpec.ofChange gameDoneSpec)) gameDoneCard

/-- THE TIED CARD OF 'basculelaw18.OracleNil'. -/
def oracleNilCard : Claim7 := { stood := { row := oracleNilRow, standIns := [], harness := (true, "95851e52ebd0ef4a5b944fdeb0450148eccff08aa4e5c6cc76f1371064132368"), looks := false }, kinds := [], alts := [], laidByText := true, laidKinds := [.data, .data], laidTests := true, laidLooks := .later }
def OracleNilCardSaid : Prop := Claim7.holds Tryz.pinned (.plain (OpenSpec.ofChange oracleNilSpec)) oracleNilCard

/-- THE SECOND FORM's CARD OF 'basculelaw17.GameDone'. -/
def gameDoneUptoCard : Claim7 := { stood := { row := gameDoneUptoRow, standIns := [], harness := (true, "95851e52ebd0ef4a5b944fdeb0450148eccff08aa4e5c6cc76f1371064132368"), looks := false }, kinds := [], alts := [], laidByText := true, laidKinds := [.data, .data], laidTests := true, laidLooks := .later }
def GameDoneUptoCardSaid : Prop := Claim7.holds Tryz.pinned (.plain (OpenSpec.upto gameDoneSpec)) gameDoneUptoCard

/-- THE SECOND FORM's CARD OF 'basculelaw18.OracleNil'. -/
def oracleNilUptoCard : Claim7 := { stood := { row := oracleNilUptoRow, standIns := [], harness := (true, "95851e52ebd0ef4a5b944fdeb0450148eccff08aa4e5c6cc76f1371064132368"), looks := false }, kinds := [], alts := [], laidByText := true, laidKinds := [.data, .data], laidTests := true, laidLooks := .later }
def OracleNilUptoCardSaid : Prop := Claim7.holds Tryz.pinned (.plain (OpenSpec.upto oracleNilSpec)) oracleNilUptoCard
end Rows
end Go.Proofs.YtgjchnjddbplbaaGreatDoor
