/- Sizes and well-formedness of data (written by program). Conditions: none (definitions). -/
import Derived.Test.YteommboffflkbaaGreatPure
namespace Go.E
open Go.RowKit
set_option linter.unusedVariables false

def D.Address.wf (x : D.Address) : Prop := I64 x.Machine ∧ I64 x.Kind ∧ I64 x.Index ∧ True
def D.Address.sz (x : D.Address) : Nat := 0
def D.ShardVar.wf (x : D.ShardVar) : Prop := True ∧ True ∧ D.Address.wf x.Held ∧ True
def D.ShardVar.sz (x : D.ShardVar) : Nat := 0
def D.ShardRedex.wf (x : D.ShardRedex) : Prop := D.Address.wf x.A ∧ D.Address.wf x.B ∧ True
def D.ShardRedex.sz (x : D.ShardRedex) : Nat := 0
def D.ShardCell.wf (x : D.ShardCell) : Prop := I64 x.Kind ∧ I64 x.Level ∧ I64 x.Value ∧ WfL I64 x.Data ∧ WfL D.Address.wf x.Aux ∧ True
def D.ShardCell.sz (x : D.ShardCell) : Nat := x.Data.length + (x.Aux.length + (0))
def D.Parcel.wf (x : D.Parcel) : Prop := I64 x.Kind ∧ D.ShardCell.wf x.Cell ∧ D.Address.wf x.A ∧ D.Address.wf x.B ∧ True
def D.Parcel.sz (x : D.Parcel) : Nat := D.ShardCell.sz x.Cell + (0)
def D.Shard.wf (x : D.Shard) : Prop := WfL D.ShardCell.wf x.Cells ∧ WfL D.ShardVar.wf x.Vars ∧ WfL D.ShardRedex.wf x.Redexes ∧ True
def D.Shard.sz (x : D.Shard) : Nat := szL D.ShardCell.sz x.Cells + (x.Vars.length + (x.Redexes.length + (0)))
def D.Grid.wf (x : D.Grid) : Prop := WfL D.Shard.wf x.Shards ∧ D.Address.wf x.Root ∧ True
def D.Grid.sz (x : D.Grid) : Nat := szL D.Shard.sz x.Shards + (0)
def D.Cluster.wf (x : D.Cluster) : Prop := D.Grid.wf x.Grid ∧ WfL (WfL D.Parcel.wf) x.Channels ∧ WfL (WfL I64) x.Counts ∧ WfL I64 x.Sent ∧ WfL I64 x.Got ∧ True
def D.Cluster.sz (x : D.Cluster) : Nat := D.Grid.sz x.Grid + (szL (fun x => szL D.Parcel.sz x) x.Channels + (szL (fun x => x.length) x.Counts + (x.Sent.length + (x.Got.length + (0)))))
end Go.E

