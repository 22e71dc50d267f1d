/- The history: HistoryRow. -/
import Derived.Test.YtepklobkppdliaaDoorVSm4
namespace Go.Proofs.YtepklobkppdliaaDoor.Hs
open Go.RowKit Go.Proofs.YtepklobkppdliaaDoorW.PrintWords Go.Proofs.YtepklobkppdliaaDoorW.PrintLast Go.Proofs.YtepklobkppdliaaDoorW.PrintMore Go.Proofs.YtepklobkppdliaaDoor.Lib Go.Proofs.YtepklobkppdliaaDoor.Open Go.Proofs.YtepklobkppdliaaDoor.Md
open Go.Proofs.YtepklobkppdliaaDoor.Rm (Rm)
theorem cell_low {w W : World} {p : Addr} {u : Value} (h : w.cell? p = some u) (hb : Below w.heap.size w W) : W.cell? p = some u := by
  rw [mod_cell (Mod.of_below hb (fun _ => False)) (fun h => h) (World.block_lt_of_cell? _ _ h)]
  exact h
end Go.Proofs.YtepklobkppdliaaDoor.Hs
