/- NoticeNames, run by the executor: the law. -/
import Derived.Test.YtohikcchbjchkaaGreatDoorKtab
namespace Go.Proofs.YtohikcchbjchkaaGreatDoor
open Go Sx
set_option maxRecDepth 1000000
theorem law_run : ((Tr.get (pa 3) (cxT Tryz.prog xk0 (setT tabs memo0) rcv0).fn).isSome && isV (.bool true) (exec (cxT Tryz.prog xk0 (setT tabs memo0) rcv0) 100000 (.call 3 [] (hOf heap0) Tryz.prog.globals.size))) = true := by decide +kernel
end Go.Proofs.YtohikcchbjchkaaGreatDoor
