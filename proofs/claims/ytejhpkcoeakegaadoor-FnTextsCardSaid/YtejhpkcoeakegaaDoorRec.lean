/-
  The walks of ReceiptOk and EntryOk, and of the laws' helpers on receipts and entries.
-/
import Derived.Test.YtejhpkcoeakegaaDoorName
import Derived.Deep.RegionWith
namespace Go.Proofs.YtejhpkcoeakegaaDoor
set_option linter.unusedVariables false
open Go.RowKit

/-- ReceiptOk. -/
def receiptOk (r t : ByteArray) (n : Int) : Bool := nameOk r && nameOk t && inR n 0 511
/-- EntryOk. -/
def entryOk (t : ByteArray) (i tm : Int) (k b : ByteArray) : Bool := nameOk t && inR i 0 511 && inR tm 0 1000000000 && decide (k.size ≤ 40) && decide (b.size ≤ 400)

end Go.Proofs.YtejhpkcoeakegaaDoor
