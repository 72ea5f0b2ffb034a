/- StateNames, run by the executor: a part of it. -/
import Derived.Test.YtihnnhhofdbnlaaGreatDoorKtab
namespace Go.Proofs.YtihnnhhofdbnlaaGreatDoor
open Go Sx
set_option maxRecDepth 1000000
theorem part1_run : tabOk (cxT Tryz.prog xk0 (setT tabs memo0) rcv0) 100000 (hOf heap0) Tryz.prog.globals.size [(24, [([], .bool true)])] = true := by decide +kernel
end Go.Proofs.YtihnnhhofdbnlaaGreatDoor
