/-
  DERIVED. GIVEN WITH THE SEED: THE CARDS: each row of YtdfahkeodlfopaaDoorRows.lean that lists a variable, with what it lists TIED to the program's text (the seventh form; the later family's looks); each row that meets fmt, with fmt's text TOLD by the authors' own Lean function (tested against real Go, not proved from fmt's source: count such statements apart). THE CARD IS WHAT COUNTS. Prove the row's statement (the work); the ties are given (YtdfahkeodlfopaaDoorTie.lean); close each card by the builder's one call (the guide's Derived/Test/ToyasCard.lean, 'card_holds'). Laid BY PROGRAM, IN A SANDBOX (cutbox-door.mjs). By AI agents, Wed Nov 11 2026. No macro, syntax, notation, axiom, sorry.
-/
import Derived.Test.YtdfahkeodlfopaaDoorRows
import GoSem.ClaimSeven
namespace Go.Proofs.YtdfahkeodlfopaaDoor
namespace Rows

/-- THE TIED CARD OF 'pedigreelaw02.TupleTotal'. -/
def tupleTotalCard : Claim7 := { stood := { row := tupleTotalRow, standIns := [], harness := (true, "fd81cf09ad200ac4bcdf00b406508a1e1ee1d22876b83d587ccc1b54a50ff7be"), looks := true }, kinds := [], alts := [], laidByText := true, laidKinds := [.data, .data, .data], laidTests := true, laidLooks := .later }
def TupleTotalCardSaid : Prop := Claim7.holds Tryd.pinned (.plain (OpenSpec.ofChange tupleTotalSpec)) tupleTotalCard

/-- THE TIED CARD OF 'pedigreelaw02.TupleBinds'. -/
def tupleBindsCard : Claim7 := { stood := { row := tupleBindsRow, standIns := [], harness := (true, "fd81cf09ad200ac4bcdf00b406508a1e1ee1d22876b83d587ccc1b54a50ff7be"), looks := true }, kinds := [], alts := [], laidByText := true, laidKinds := [.data, .data, .data], laidTests := true, laidLooks := .later }
def TupleBindsCardSaid : Prop := Claim7.holds Tryd.pinned (.plain (OpenSpec.ofChange tupleBindsSpec)) tupleBindsCard

/-- THE TIED CARD OF 'pedigreelaw02.TupleWithin'. -/
def tupleWithinCard : Claim7 := { stood := { row := tupleWithinRow, standIns := [], harness := (true, "fd81cf09ad200ac4bcdf00b406508a1e1ee1d22876b83d587ccc1b54a50ff7be"), looks := true }, kinds := [], alts := [], laidByText := true, laidKinds := [.data, .data, .data], laidTests := true, laidLooks := .later }
def TupleWithinCardSaid : Prop := Claim7.holds Tryd.pinned (.plain (OpenSpec.ofChange tupleWithinSpec)) tupleWithinCard

/-- THE TIED CARD OF 'pedigreelaw02.TupleNear'. -/
def tupleNearCard : Claim7 := { stood := { row := tupleNearRow, standIns := [], harness := (true, "fd81cf09ad200ac4bcdf00b406508a1e1ee1d22876b83d587ccc1b54a50ff7be"), looks := true }, kinds := [], alts := [], laidByText := true, laidKinds := [.data, .data, .data], laidTests := true, laidLooks := .later }
def TupleNearCardSaid : Prop := Claim7.holds Tryd.pinned (.plain (OpenSpec.ofChange tupleNearSpec)) tupleNearCard

/-- THE TIED CARD OF 'pedigreelaw02.TupleMatches'. -/
def tupleMatchesCard : Claim7 := { stood := { row := tupleMatchesRow, standIns := [], harness := (true, "fd81cf09ad200ac4bcdf00b406508a1e1ee1d22876b83d587ccc1b54a50ff7be"), looks := true }, kinds := [], alts := [], laidByText := true, laidKinds := [.data, .data, .data], laidTests := true, laidLooks := .later }
def TupleMatchesCardSaid : Prop := Claim7.holds Tryd.pinned (.plain (OpenSpec.ofChange tupleMatchesSpec)) tupleMatchesCard

/-- THE TIED CARD OF 'pedigreelaw02.TupleMany'. -/
def tupleManyCard : Claim7 := { stood := { row := tupleManyRow, standIns := [], harness := (true, "fd81cf09ad200ac4bcdf00b406508a1e1ee1d22876b83d587ccc1b54a50ff7be"), looks := true }, kinds := [], alts := [], laidByText := true, laidKinds := [.data, .data, .data], laidTests := true, laidLooks := .later }
def TupleManyCardSaid : Prop := Claim7.holds Tryd.pinned (.plain (OpenSpec.ofChange tupleManySpec)) tupleManyCard

/-- THE TIED CARD OF 'pedigreelaw02.TupleForms'. -/
def tupleFormsCard : Claim7 := { stood := { row := tupleFormsRow, standIns := [], harness := (true, "fd81cf09ad200ac4bcdf00b406508a1e1ee1d22876b83d587ccc1b54a50ff7be"), looks := true }, kinds := [], alts := [], laidByText := true, laidKinds := [.data, .data, .data], laidTests := true, laidLooks := .later }
def TupleFormsCardSaid : Prop := Claim7.holds Tryd.pinned (.plain (OpenSpec.ofChange tupleFormsSpec)) tupleFormsCard

/-- THE TIED CARD OF 'pedigreelaw02.TupleRows'. -/
def tupleRowsCard : Claim7 := { stood := { row := tupleRowsRow, standIns := [], harness := (true, "fd81cf09ad200ac4bcdf00b406508a1e1ee1d22876b83d587ccc1b54a50ff7be"), looks := true }, kinds := [], alts := [], laidByText := true, laidKinds := [.data, .data, .data], laidTests := true, laidLooks := .later }
def TupleRowsCardSaid : Prop := Claim7.holds Tryd.pinned (.plain (OpenSpec.ofChange tupleRowsSpec)) tupleRowsCard

/-- THE TIED CARD OF 'pedigreelaw02.TupleSets'. -/
def tupleSetsCard : Claim7 := { stood := { row := tupleSetsRow, standIns := [], harness := (true, "fd81cf09ad200ac4bcdf00b406508a1e1ee1d22876b83d587ccc1b54a50ff7be"), looks := true }, kinds := [], alts := [], laidByText := true, laidKinds := [.data, .data, .data], laidTests := true, laidLooks := .later }
def TupleSetsCardSaid : Prop := Claim7.holds Tryd.pinned (.plain (OpenSpec.ofChange tupleSetsSpec)) tupleSetsCard

/-- THE TIED CARD OF 'pedigreelaw02.TupleChange'. -/
def tupleChangeCard : Claim7 := { stood := { row := tupleChangeRow, standIns := [], harness := (true, "fd81cf09ad200ac4bcdf00b406508a1e1ee1d22876b83d587ccc1b54a50ff7be"), looks := true }, kinds := [], alts := [], laidByText := true, laidKinds := [.data, .data, .data], laidTests := true, laidLooks := .later }
def TupleChangeCardSaid : Prop := Claim7.holds Tryd.pinned (.plain (OpenSpec.ofChange tupleChangeSpec)) tupleChangeCard

/-- THE TIED CARD OF 'pedigreelaw02.TupleBack'. -/
def tupleBackCard : Claim7 := { stood := { row := tupleBackRow, standIns := [], harness := (true, "fd81cf09ad200ac4bcdf00b406508a1e1ee1d22876b83d587ccc1b54a50ff7be"), looks := true }, kinds := [], alts := [], laidByText := true, laidKinds := [.data, .data, .data, .sentinel, .sentinel], laidTests := true, laidLooks := .later }
def TupleBackCardSaid : Prop := Claim7.holds Tryd.pinned (.plain (OpenSpec.ofChange tupleBackSpec)) tupleBackCard

/-- THE SECOND FORM's CARD OF 'pedigreelaw02.TupleTotal'. -/
def tupleTotalUptoCard : Claim7 := { stood := { row := tupleTotalUptoRow, standIns := [], harness := (true, "fd81cf09ad200ac4bcdf00b406508a1e1ee1d22876b83d587ccc1b54a50ff7be"), looks := true }, kinds := [], alts := [], laidByText := true, laidKinds := [.data, .data, .data], laidTests := true, laidLooks := .later }
def TupleTotalUptoCardSaid : Prop := Claim7.holds Tryd.pinned (.plain (OpenSpec.upto tupleTotalSpec)) tupleTotalUptoCard

/-- THE SECOND FORM's CARD OF 'pedigreelaw02.TupleBinds'. -/
def tupleBindsUptoCard : Claim7 := { stood := { row := tupleBindsUptoRow, standIns := [], harness := (true, "fd81cf09ad200ac4bcdf00b406508a1e1ee1d22876b83d587ccc1b54a50ff7be"), looks := true }, kinds := [], alts := [], laidByText := true, laidKinds := [.data, .data, .data], laidTests := true, laidLooks := .later }
def TupleBindsUptoCardSaid : Prop := Claim7.holds Tryd.pinned (.plain (OpenSpec.upto tupleBindsSpec)) tupleBindsUptoCard

/-- THE SECOND FORM's CARD OF 'pedigreelaw02.TupleWithin'. -/
def tupleWithinUptoCard : Claim7 := { stood := { row := tupleWithinUptoRow, standIns := [], harness := (true, "fd81cf09ad200ac4bcdf00b406508a1e1ee1d22876b83d587ccc1b54a50ff7be"), looks := true }, kinds := [], alts := [], laidByText := true, laidKinds := [.data, .data, .data], laidTests := true, laidLooks := .later }
def TupleWithinUptoCardSaid : Prop := Claim7.holds Tryd.pinned (.plain (OpenSpec.upto tupleWithinSpec)) tupleWithinUptoCard

/-- THE SECOND FORM's CARD OF 'pedigreelaw02.TupleNear'. -/
def tupleNearUptoCard : Claim7 := { stood := { row := tupleNearUptoRow, standIns := [], harness := (true, "fd81cf09ad200ac4bcdf00b406508a1e1ee1d22876b83d587ccc1b54a50ff7be"), looks := true }, kinds := [], alts := [], laidByText := true, laidKinds := [.data, .data, .data], laidTests := true, laidLooks := .later }
def TupleNearUptoCardSaid : Prop := Claim7.holds Tryd.pinned (.plain (OpenSpec.upto tupleNearSpec)) tupleNearUptoCard

/-- THE SECOND FORM's CARD OF 'pedigreelaw02.TupleMatches'. -/
def tupleMatchesUptoCard : Claim7 := { stood := { row := tupleMatchesUptoRow, standIns := [], harness := (true, "fd81cf09ad200ac4bcdf00b406508a1e1ee1d22876b83d587ccc1b54a50ff7be"), looks := true }, kinds := [], alts := [], laidByText := true, laidKinds := [.data, .data, .data], laidTests := true, laidLooks := .later }
def TupleMatchesUptoCardSaid : Prop := Claim7.holds Tryd.pinned (.plain (OpenSpec.upto tupleMatchesSpec)) tupleMatchesUptoCard

/-- THE SECOND FORM's CARD OF 'pedigreelaw02.TupleMany'. -/
def tupleManyUptoCard : Claim7 := { stood := { row := tupleManyUptoRow, standIns := [], harness := (true, "fd81cf09ad200ac4bcdf00b406508a1e1ee1d22876b83d587ccc1b54a50ff7be"), looks := true }, kinds := [], alts := [], laidByText := true, laidKinds := [.data, .data, .data], laidTests := true, laidLooks := .later }
def TupleManyUptoCardSaid : Prop := Claim7.holds Tryd.pinned (.plain (OpenSpec.upto tupleManySpec)) tupleManyUptoCard

/-- THE SECOND FORM's CARD OF 'pedigreelaw02.TupleForms'. -/
def tupleFormsUptoCard : Claim7 := { stood := { row := tupleFormsUptoRow, standIns := [], harness := (true, "fd81cf09ad200ac4bcdf00b406508a1e1ee1d22876b83d587ccc1b54a50ff7be"), looks := true }, kinds := [], alts := [], laidByText := true, laidKinds := [.data, .data, .data], laidTests := true, laidLooks := .later }
def TupleFormsUptoCardSaid : Prop := Claim7.holds Tryd.pinned (.plain (OpenSpec.upto tupleFormsSpec)) tupleFormsUptoCard

/-- THE SECOND FORM's CARD OF 'pedigreelaw02.TupleRows'. -/
def tupleRowsUptoCard : Claim7 := { stood := { row := tupleRowsUptoRow, standIns := [], harness := (true, "fd81cf09ad200ac4bcdf00b406508a1e1ee1d22876b83d587ccc1b54a50ff7be"), looks := true }, kinds := [], alts := [], laidByText := true, laidKinds := [.data, .data, .data], laidTests := true, laidLooks := .later }
def TupleRowsUptoCardSaid : Prop := Claim7.holds Tryd.pinned (.plain (OpenSpec.upto tupleRowsSpec)) tupleRowsUptoCard

/-- THE SECOND FORM's CARD OF 'pedigreelaw02.TupleSets'. -/
def tupleSetsUptoCard : Claim7 := { stood := { row := tupleSetsUptoRow, standIns := [], harness := (true, "fd81cf09ad200ac4bcdf00b406508a1e1ee1d22876b83d587ccc1b54a50ff7be"), looks := true }, kinds := [], alts := [], laidByText := true, laidKinds := [.data, .data, .data], laidTests := true, laidLooks := .later }
def TupleSetsUptoCardSaid : Prop := Claim7.holds Tryd.pinned (.plain (OpenSpec.upto tupleSetsSpec)) tupleSetsUptoCard

/-- THE SECOND FORM's CARD OF 'pedigreelaw02.TupleChange'. -/
def tupleChangeUptoCard : Claim7 := { stood := { row := tupleChangeUptoRow, standIns := [], harness := (true, "fd81cf09ad200ac4bcdf00b406508a1e1ee1d22876b83d587ccc1b54a50ff7be"), looks := true }, kinds := [], alts := [], laidByText := true, laidKinds := [.data, .data, .data], laidTests := true, laidLooks := .later }
def TupleChangeUptoCardSaid : Prop := Claim7.holds Tryd.pinned (.plain (OpenSpec.upto tupleChangeSpec)) tupleChangeUptoCard

/-- THE SECOND FORM's CARD OF 'pedigreelaw02.TupleBack'. -/
def tupleBackUptoCard : Claim7 := { stood := { row := tupleBackUptoRow, standIns := [], harness := (true, "fd81cf09ad200ac4bcdf00b406508a1e1ee1d22876b83d587ccc1b54a50ff7be"), looks := true }, kinds := [], alts := [], laidByText := true, laidKinds := [.data, .data, .data, .sentinel, .sentinel], laidTests := true, laidLooks := .later }
def TupleBackUptoCardSaid : Prop := Claim7.holds Tryd.pinned (.plain (OpenSpec.upto tupleBackSpec)) tupleBackUptoCard
end Rows
end Go.Proofs.YtdfahkeodlfopaaDoor
