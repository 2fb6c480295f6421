/- The plain law of Back: what has been moved on comes back. -/
import Derived.Test.YtdhiijleafcfcaaPBk
import Derived.Test.YtdhiijleafcfcaaTf18
namespace Go.Proofs.Ytdhiijleafcfcaa.Pure
open Go.RowKit Go.Proofs.Ytdhiijleafcfcaa.T Go.Proofs.YtdhiijleafcfcaaW.PrintWords Go.Proofs.YtdhiijleafcfcaaW.PrintLast
theorem PuzzlesBack (a0 : ByteArray) (n : Int) (key : ByteArray) (bk : Bool) (a2 : ByteArray) (h0 : a0.size ≤ 140737488351232) (_ : (Lit.int .i64 n).wf = true) (_ : key.size ≤ maxLen) (_ : a2.size ≤ 140737488351232) : ∃ k, padlocklaw03_PuzzlesBack.f k a0 n key bk a2 = some true := Ev.rounds (back_law a0 n key bk a2 (by omega))
end Go.Proofs.Ytdhiijleafcfcaa.Pure
