/- The law's own small helper f6same: whether two lists of numbers are equal. -/
import Derived.Test.YtdlegcjcmhpbcaaAid
import Derived.Test.YtdlegcjcmhpbcaaBx
import Derived.Handy
namespace Go.Proofs.Ytdlegcjcmhpbcaa
open Go.RowKit



end Go.Proofs.Ytdlegcjcmhpbcaa
