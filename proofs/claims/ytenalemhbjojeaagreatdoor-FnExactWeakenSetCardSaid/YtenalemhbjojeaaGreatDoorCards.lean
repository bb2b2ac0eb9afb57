/-
  DERIVED. GIVEN WITH THE SEED: THE CARDS: each row of YtenalemhbjojeaaGreatDoorRows.lean that lists a variable, with what it lists TIED to the program's text (the seventh form; the later family's looks); each row that meets fmt, with fmt's text TOLD by the authors' own Lean function (tested against real Go, not proved from fmt's source: count such statements apart). THE CARD IS WHAT COUNTS. Prove the row's statement (the work); the ties are given (YtenalemhbjojeaaGreatDoorTie.lean); close each card by the builder's one call (the guide's Derived/Test/ToyasCard.lean, 'card_holds'). Laid BY PROGRAM, IN A SANDBOX (cutbox-door.mjs). By AI agents, Wed Nov 11 2026. No macro, syntax, notation, axiom, sorry.
-/
import Derived.Test.YtenalemhbjojeaaGreatDoorRows
import GoSem.ClaimSeven
namespace Go.Proofs.YtenalemhbjojeaaGreatDoor
namespace Rows

/-- THE TIED CARD OF 'laws.FnExactAddToSet'. -/
def fnExactAddToSetCard : Claim7 := { stood := { row := fnExactAddToSetRow, standIns := [], harness := (true, "8dee0d48b210ec730ef7247e4111c4b9f105ed2aacd7879288a7a65ae82a8d0e"), looks := false }, kinds := [], alts := [], laidByText := true, laidKinds := [.data, .data, .data], laidTests := true, laidLooks := .later }
def FnExactAddToSetCardSaid : Prop := Claim7.holds Tryz.pinned (.plain (OpenSpec.ofChange fnExactAddToSetSpec)) fnExactAddToSetCard

/-- THE TIED CARD OF 'laws.FnExactUniteSets'. -/
def fnExactUniteSetsCard : Claim7 := { stood := { row := fnExactUniteSetsRow, standIns := [], harness := (true, "8dee0d48b210ec730ef7247e4111c4b9f105ed2aacd7879288a7a65ae82a8d0e"), looks := false }, kinds := [], alts := [], laidByText := true, laidKinds := [.data, .data, .data], laidTests := true, laidLooks := .later }
def FnExactUniteSetsCardSaid : Prop := Claim7.holds Tryz.pinned (.plain (OpenSpec.ofChange fnExactUniteSetsSpec)) fnExactUniteSetsCard

/-- THE TIED CARD OF 'laws.FnExactWeakenSet'. -/
def fnExactWeakenSetCard : Claim7 := { stood := { row := fnExactWeakenSetRow, standIns := [], harness := (true, "8dee0d48b210ec730ef7247e4111c4b9f105ed2aacd7879288a7a65ae82a8d0e"), looks := false }, kinds := [], alts := [], laidByText := true, laidKinds := [.data, .data, .data], laidTests := true, laidLooks := .later }
def FnExactWeakenSetCardSaid : Prop := Claim7.holds Tryz.pinned (.plain (OpenSpec.ofChange fnExactWeakenSetSpec)) fnExactWeakenSetCard

/-- THE TIED CARD OF 'laws.FnExactAbstractAll'. -/
def fnExactAbstractAllCard : Claim7 := { stood := { row := fnExactAbstractAllRow, standIns := [], harness := (true, "8dee0d48b210ec730ef7247e4111c4b9f105ed2aacd7879288a7a65ae82a8d0e"), looks := false }, kinds := [], alts := [], laidByText := true, laidKinds := [.data, .data, .data], laidTests := true, laidLooks := .later }
def FnExactAbstractAllCardSaid : Prop := Claim7.holds Tryz.pinned (.plain (OpenSpec.ofChange fnExactAbstractAllSpec)) fnExactAbstractAllCard

/-- THE SECOND FORM's CARD OF 'laws.FnExactAddToSet'. -/
def fnExactAddToSetUptoCard : Claim7 := { stood := { row := fnExactAddToSetUptoRow, standIns := [], harness := (true, "8dee0d48b210ec730ef7247e4111c4b9f105ed2aacd7879288a7a65ae82a8d0e"), looks := false }, kinds := [], alts := [], laidByText := true, laidKinds := [.data, .data, .data], laidTests := true, laidLooks := .later }
def FnExactAddToSetUptoCardSaid : Prop := Claim7.holds Tryz.pinned (.plain (OpenSpec.upto fnExactAddToSetSpec)) fnExactAddToSetUptoCard

/-- THE SECOND FORM's CARD OF 'laws.FnExactUniteSets'. -/
def fnExactUniteSetsUptoCard : Claim7 := { stood := { row := fnExactUniteSetsUptoRow, standIns := [], harness := (true, "8dee0d48b210ec730ef7247e4111c4b9f105ed2aacd7879288a7a65ae82a8d0e"), looks := false }, kinds := [], alts := [], laidByText := true, laidKinds := [.data, .data, .data], laidTests := true, laidLooks := .later }
def FnExactUniteSetsUptoCardSaid : Prop := Claim7.holds Tryz.pinned (.plain (OpenSpec.upto fnExactUniteSetsSpec)) fnExactUniteSetsUptoCard

/-- THE SECOND FORM's CARD OF 'laws.FnExactWeakenSet'. -/
def fnExactWeakenSetUptoCard : Claim7 := { stood := { row := fnExactWeakenSetUptoRow, standIns := [], harness := (true, "8dee0d48b210ec730ef7247e4111c4b9f105ed2aacd7879288a7a65ae82a8d0e"), looks := false }, kinds := [], alts := [], laidByText := true, laidKinds := [.data, .data, .data], laidTests := true, laidLooks := .later }
def FnExactWeakenSetUptoCardSaid : Prop := Claim7.holds Tryz.pinned (.plain (OpenSpec.upto fnExactWeakenSetSpec)) fnExactWeakenSetUptoCard

/-- THE SECOND FORM's CARD OF 'laws.FnExactAbstractAll'. -/
def fnExactAbstractAllUptoCard : Claim7 := { stood := { row := fnExactAbstractAllUptoRow, standIns := [], harness := (true, "8dee0d48b210ec730ef7247e4111c4b9f105ed2aacd7879288a7a65ae82a8d0e"), looks := false }, kinds := [], alts := [], laidByText := true, laidKinds := [.data, .data, .data], laidTests := true, laidLooks := .later }
def FnExactAbstractAllUptoCardSaid : Prop := Claim7.holds Tryz.pinned (.plain (OpenSpec.upto fnExactAbstractAllSpec)) fnExactAbstractAllUptoCard
end Rows
end Go.Proofs.YtenalemhbjojeaaGreatDoor
