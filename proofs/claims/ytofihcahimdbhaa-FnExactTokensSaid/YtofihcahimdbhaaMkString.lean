/- String: rows of such, marked and held. -/
import Derived.Test.YtofihcahimdbhaaMkBase
import Derived.Deep.QuietTactic
import Derived.BigQuiet
namespace Go.Proofs.Ytofihcahimdbhaa
open Go.RowKit

end Go.Proofs.Ytofihcahimdbhaa
