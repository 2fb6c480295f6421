/- The plain law of Sheets: what is seen over the upper sheet's holes is what the document sees over the lower sheet's cells. -/
import Derived.Test.YtdhiijleafcfcaaPSd
import Derived.Test.YtdhiijleafcfcaaTf13
namespace Go.Proofs.Ytdhiijleafcfcaa.Pure
open Go.RowKit Go.Proofs.Ytdhiijleafcfcaa.T Go.Proofs.YtdhiijleafcfcaaW.PrintWords Go.Proofs.YtdhiijleafcfcaaW.PrintLast
theorem PuzzlesSheets (u l : List ByteArray) (t x y : Int) (wd : ByteArray) : ∃ k, padlocklaw03_PuzzlesSheets.f k u l t x y wd = some true := Ev.rounds (sheets_law u l t x y wd)
end Go.Proofs.Ytdhiijleafcfcaa.Pure
