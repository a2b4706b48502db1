/-
  Parts of the proof: IsIns0. Conditions: none.
-/
import Derived.Test.YtdmbhmhfjappcaaGreatDoorQGHtZHtB
import Derived.Test.YtdmbhmhfjappcaaGreatDoorQGStrName
namespace Go.Proofs.YtdmbhmhfjappcaaGreatDoor
open Go.ChangeShapes Go.WideShapes Go.ChangeAt Go.RowKit Go.Deep Go.Joins
open Go.ChangeMaps (open_string shut_string)
set_option linter.unusedVariables false
set_option linter.unusedSimpArgs false

def slotB (op : Int) : Bool := op == 5 || op == 6 || op == 18 || op == 21 || op == 24 || op == 26 || op == 38
def aOK (op a slots size : Int) : Bool :=
  if op = 2 then inB a 0 1000000000 else if op = 4 ∨ op = 11 then inB a 0 2 else if op = 12 then inB a 1 15
  else if slotB op = true then decide (0 ≤ a) && decide (a < slots) else if htF op = true then decide (0 ≤ a) && decide (a < size) else a == 0
def bOK (op b slots : Int) : Bool :=
  if op = 15 ∨ op = 52 then inB b 0 1 else if op = 18 ∨ op = 19 ∨ op = 20 then inB b 0 81 else if op = 21 ∨ op = 22 ∨ op = 23 then inB b 0 40
  else if op = 24 then decide (0 ≤ b) && decide (b < slots) else if op = 49 then inB b 0 100 else b == 0
def textK (op : Int) : Int :=
  if op = 3 ∨ op = 31 ∨ op = 55 ∨ op = 56 ∨ op = 35 ∨ op = 36 then 1
  else if op = 7 ∨ op = 8 ∨ op = 17 ∨ op = 19 ∨ op = 20 ∨ op = 22 ∨ op = 23 ∨ op = 25 ∨ op = 26 ∨ op = 32 ∨ op = 34 ∨ op = 39 ∨ op = 44 then 2 else 0
def textOK (op : Int) (s : ByteArray) : Bool :=
  if op = 3 then decide (s.size ≤ 400) else if textK op = 1 then true else if textK op = 2 then goodF s else s.toList.isEmpty
def tOK (op : Int) (t : ByteArray) : Bool := if op = 25 then goodF t else t.toList.isEmpty
def insF (op a b : Int) (s t : ByteArray) (slots size : Int) : Bool := inB op 1 56 && (aOK op a slots size && (bOK op b slots && (textOK op s && tOK op t)))
end Go.Proofs.YtdmbhmhfjappcaaGreatDoor
