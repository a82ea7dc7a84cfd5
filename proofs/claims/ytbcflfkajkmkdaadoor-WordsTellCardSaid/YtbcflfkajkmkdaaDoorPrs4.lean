/- The plain map of chapter 7: Put, New. -/
import Derived.Test.YtbcflfkajkmkdaaDoorPrs3
namespace Go.Proofs.YtbcflfkajkmkdaaDoor.X
open Go Go.Proofs
set_option linter.unusedVariables false
set_option maxRecDepth 10000
set_option maxHeartbeats 2000000

theorem _root_.Go.Proofs.YtbcflfkajkmkdaaDoor.X.Keep.non_slot {H H' H'' : Heap} {b : Nat} (h : Keep Non H H') (h' : Keep (· = b) H' H'') : Keep (· = b) H H'' := (h.mono fun _ _ h => h.elim).step h' (fun _ _ e => e)

end Go.Proofs.YtbcflfkajkmkdaaDoor.X
