/- The plain law of Ciphers: a letter moved on by the program is the letter that the document moves on, and the library finds a part where the document finds it. -/
import Derived.Test.YtdhiijleafcfcaaPCl
import Derived.Test.YtdhiijleafcfcaaTf17
namespace Go.Proofs.Ytdhiijleafcfcaa.Pure
open Go.RowKit Go.Proofs.Ytdhiijleafcfcaa.T Go.Proofs.YtdhiijleafcfcaaW.PrintWords Go.Proofs.YtdhiijleafcfcaaW.PrintLast
theorem PuzzlesCiphers (a0 : ByteArray) (n : Int) (key : ByteArray) (bk : Bool) (a2 : ByteArray) (_ : a0.size ≤ 140737488351232) (_ : (Lit.int .i64 n).wf = true) (_ : key.size ≤ maxLen) (_ : a2.size ≤ 140737488351232) : ∃ k, padlocklaw03_PuzzlesCiphers.f k a0 n key bk a2 = some true := Ev.rounds (ciphers_law a0 n key bk a2)
end Go.Proofs.Ytdhiijleafcfcaa.Pure
