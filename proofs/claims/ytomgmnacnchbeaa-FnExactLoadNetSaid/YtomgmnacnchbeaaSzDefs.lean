/- Sizes and well-formedness of data (written by program). Conditions: none (definitions). -/
import Derived.Test.YtomgmnacnchbeaaPure
namespace Go.E
open Go.RowKit
set_option linter.unusedVariables false

def D.Port.wf (x : D.Port) : Prop := I64 x.Agent ∧ I64 x.Slot ∧ True
def D.Port.sz (x : D.Port) : Nat := 0
def D.Word.wf (x : D.Word) : Prop := I64 x.Tag ∧ I64 x.At ∧ True
def D.Word.sz (x : D.Word) : Nat := 0
def D.Pair.wf (x : D.Pair) : Prop := I64 x.A ∧ I64 x.B ∧ True
def D.Pair.sz (x : D.Pair) : Nat := 0
def D.Agent.wf (x : D.Agent) : Prop := I64 x.Kind ∧ I64 x.Level ∧ I64 x.Value ∧ WfL I64 x.Data ∧ WfL D.Port.wf x.Ports ∧ True
def D.Agent.sz (x : D.Agent) : Nat := x.Data.length + (x.Ports.length + (0))
def D.Cell.wf (x : D.Cell) : Prop := I64 x.Kind ∧ I64 x.Level ∧ I64 x.Value ∧ WfL I64 x.Data ∧ WfL D.Word.wf x.Words ∧ True
def D.Cell.sz (x : D.Cell) : Nat := x.Data.length + (x.Words.length + (0))
def D.Net.wf (x : D.Net) : Prop := WfL D.Agent.wf x.Agents ∧ True
def D.Net.sz (x : D.Net) : Nat := szL D.Agent.sz x.Agents + (0)
def D.Memory.wf (x : D.Memory) : Prop := WfL D.Cell.wf x.Cells ∧ I64 x.Free ∧ D.Word.wf x.Root ∧ WfL D.Pair.wf x.Redexes ∧ True
def D.Memory.sz (x : D.Memory) : Nat := szL D.Cell.sz x.Cells + (x.Redexes.length + (0))
end Go.E

