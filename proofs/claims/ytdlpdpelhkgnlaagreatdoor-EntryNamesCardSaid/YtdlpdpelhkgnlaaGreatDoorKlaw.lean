/- EntryNames, run by the executor: the law. -/
import Derived.Test.YtdlpdpelhkgnlaaGreatDoorKtab
namespace Go.Proofs.YtdlpdpelhkgnlaaGreatDoor
open Go Sx
set_option maxRecDepth 1000000
theorem law_run : ((Tr.get (pa 7) (cxT Tryz.prog xk0 (setT tabs memo0)).fn).isSome && isV (.bool true) (exec (cxT Tryz.prog xk0 (setT tabs memo0)) 100000 (.call 7 [] (hOf heap0) Tryz.prog.globals.size))) = true := by decide +kernel
end Go.Proofs.YtdlpdpelhkgnlaaGreatDoor
